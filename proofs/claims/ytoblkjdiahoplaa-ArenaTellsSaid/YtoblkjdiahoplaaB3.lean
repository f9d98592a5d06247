/- Contract of arena.ByRows, whatever the number of used cells. -/
import Derived.Test.YtoblkjdiahoplaaB2
import Derived.Test.YtoblkjdiahoplaaSc
namespace Go.Proofs.Ytoblkjdiahoplaa.G
open Go.Shelf Go.RowKit Go.Proofs.YtoblkjdiahoplaaW.PrintWords Go.Proofs.YtoblkjdiahoplaaW.PrintLast Go.Proofs.YtoblkjdiahoplaaW.PrintMore
set_option linter.unusedVariables false
set_option linter.unusedSimpArgs false
attribute [local go_sem] Oper.semAt_some

theorem so_R : SO (lt_c cfR) := by
  have h1 : ∀ x y : Int, sgn x y = if x < y then -1 else if y < x then 1 else 0 := fun _ _ => rfl
  constructor
  · intro x y h
    have h := of_decide_eq_true h
    refine decide_eq_false ?_
    unfold cfR at h ⊢
    simp only [h1] at h ⊢
    grind
  · intro x y z h k
    have h := of_decide_eq_false h
    have k := of_decide_eq_false k
    refine decide_eq_false ?_
    unfold cfR at h k ⊢
    simp only [h1] at h k ⊢
    grind
/-- The used cells by rows. -/
def rowsL (l : List Cell) : List Cell := isort (lt_c cfR) (usedL l l.length)
def arena_ByRowsA.f (l : List Cell) : Option (List Cell × Int) := if arenaOk l = true then some (rowsL l, 0) else some ([], 190)

set_option maxRecDepth 100000 in
set_option maxHeartbeats 1000000 in
theorem arena_ByRowsA.calls (P0_0_ : Nat → Prop) (A0 : Option Addr) (c0 : Nat) (l0 : List Cell) (r1 : List Cell) (r2 : Int) (w : World) (hs0 : Kd.V kC 36 w w.heap.size (fun k_ => P0_0_ k_) (.slice A0 l0.length c0) l0) (h : arena_ByRowsA.f l0 = some (r1, r2)) :
    Calls Try.prog 16 #[.agg #[.slice A0 l0.length c0]] w fun e w' => ∃ v0_ : Value, e = .returned (.tuple #[v0_, .int .i64 r2]) ∧ Kd.N kC 36 w' w.heap.size (fun k_ => P0_0_ k_ ∨ w.heap.size ≤ k_) v0_ r1 ∧ Below w.heap.size w w' := by
  obtain ⟨A_, c_, he_, hc0, hF_⟩ := id hs0
  injection he_ with e1 e2 e3
  subst e1
  subst e3
  clear e2
  have hr0 : Kd.C kC w A0 l0.length l0 := Kd.F_now hF_
  obtain ⟨w1, hw1⟩ : ∃ w1, w1 = w.alloc (.cells #[.slice A0 l0.length c0] 26) := ⟨_, rfl⟩
  have HB1 := Aside0.mk (show Below w.heap.size w w1 by rw [hw1]; exact (Below.refl _ _).alloc (Nat.le_refl _) _)
  have hblk : w1.heap[w.heap.size]? = some (.cells #[.slice A0 l0.length c0] 26 (0, 0)) := by rw [hw1]; exact heap_alloc_new w _
  have HBK := Aside0.mk hblk
  have q0 : w1.cell? ⟨w.heap.size, 0, none⟩ = some (.slice A0 l0.length c0) := (blk_cell hblk 0).trans rfl
  have HCK := Aside0.mk (arena_Check.calls A0 c0 l0 (if arenaOk l0 = true then 0 else 190) w1 (Kd.C_below hr0 HB1.out) hc0 rfl)
  have HW := Aside0.mk hw1
  have hm := Kd.C_max hr0
  unfold arena_ByRowsA.f at h
  cases hok : arenaOk l0 with
  | false =>
    rw [hok] at HCK h
    rw [if_neg (by decide)] at HCK h
    simp only [Option.some.injEq, Prod.mk.injEq] at h
    obtain ⟨rfl, rfl⟩ := h
    clear hblk hw1 hr0 hc0 hok hs0 hF_
    go_enter Try.func16, Try.ntmps16
    go_upto_region 1 with (fail)
    rw [← HW.out]
    go_wp2_with fail
    refine HCK.out.mono ?_
    rintro e w2 ⟨rfl, hd⟩
    have HB := Aside0.mk (below_step HB1.out hd)
    clear hd
    go_wp2_with fail
    go_returns
    exact ⟨_, rfl, Kd.N_nil _ _ _ _ _, HB.out⟩
  | true =>
    rw [hok] at HCK h
    rw [if_pos rfl] at HCK h
    simp only [Option.some.injEq, Prod.mk.injEq] at h
    obtain ⟨rfl, rfl⟩ := h
    have hl96 : l0.length = 96 := by
      unfold arenaOk at hok
      rw [Bool.and_eq_true] at hok
      exact of_decide_eq_true hok.1
    have HL := Aside0.mk hl96
    obtain ⟨vA, vc, hcs, hfk⟩ := cellsAt_V hs0
    have HCS := Aside0.mk hcs
    have HFK := Aside0.mk hfk
    clear hblk hr0 hc0 hok hl96 hcs HW hs0 hF_ hfk
    subst hw1
    refine (callsIn_wide (n := 3)).1 ?_
    refine callsIn_of_wp_marks Try.func16 rfl trivial ?_ rfl
    simp only [Try.ntmps16, List.size_toArray, List.length_cons, List.length_nil, Nat.reduceAdd, Nat.reduceSub, Array.replicate_succ, Array.replicate_zero, List.push_toArray, List.append_toArray, List.nil_append, List.cons_append]
    gi_wp2_with (first
      | (refine ⟨trivial, ?_⟩; gi_at_call 33; refine (used_in Fence.wide 2 trivial rfl _ _ _ _).mono ?_; rintro e w3 ⟨rfl, rfl⟩)
      | (refine ⟨trivial, ?_⟩; gi_at_call 19; refine (callsIn_wide.2 HCK.out).mono ?_; rintro e w2 ⟨rfl, hd⟩; have HB2 := Aside0.mk (below_step HB1.out hd); have q2 : w2.cell? ⟨w.heap.size, 0, none⟩ = some (.slice A0 l0.length c0) := (blk_cell (blk_below HBK.out hd) 0).trans rfl; have hz : w.heap.size < w2.heap.size := (by have := hd.size; simp at this; omega); clear hd))
    have bO : ((w2.alloc (.cells #[.slice none 0 0] 22)).alloc (.cells #[.slice A0 l0.length c0] 26)).heap[w2.heap.size]? = some (.cells #[.slice none 0 0] 22 (0, 0)) := (Below.heap_alloc _ _ _ (by simp)).trans (heap_alloc_new w2 _)
    have b1 := Boxed.new (w2.alloc (.cells #[.slice none 0 0] 22)) 26 (.slice A0 l0.length c0)
    simp only [World.size_alloc] at b1
    have hB0 : Below w.heap.size w ((w2.alloc (.cells #[.slice none 0 0] 22)).alloc (.cells #[.slice A0 l0.length c0] 26)) := (HB2.out.alloc (by omega) _).alloc (by simp; omega) _
    have hsz : ((w2.alloc (.cells #[.slice none 0 0] 22)).alloc (.cells #[.slice A0 l0.length c0] 26)).heap.size = w2.heap.size + 2 := by simp
    obtain ⟨W0, hW0⟩ : ∃ W0, ((w2.alloc (.cells #[.slice none 0 0] 22)).alloc (.cells #[.slice A0 l0.length c0] 26)) = W0 := ⟨_, rfl⟩
    rw [hW0] at b1 bO hB0 hsz ⊢
    clear hW0
    refine wpIn_rangeFunc_ownH rfl (show 1 ≤ 3 by decide) (gf := 54) (lb := #[.pointer (some ⟨w2.heap.size + 1, 0, none⟩)]) rfl trivial (enters_of Try.func54 (by kernel_rfl) rfl)
      (used_stops Fence.wide 2 trivial rfl (by decide) (w2.heap.size + 1) w.heap.size A0 c0 l0 vA vc W0 hm (by omega) (by omega) b1.cell (HCS.out.below hB0)) (fun h k => h.trans k) (belowK_b (by omega)) (Below.refl _ _) (fun _ => rfl)
      (fun pre W => (∃ v, W.heap[w2.heap.size]? = some (.cells #[v] 22 (0, 0)) ∧ NI w P0_0_ W v (pre.map (cellAt l0))) ∧ Below w.heap.size w W)
      (fun _ _ _ => False)
      (OwnFrom.and (fun s => NI.own w2.heap.size W0.heap.size (by omega) (s.map (cellAt l0))) (ownFrom_below (by omega) (by omega)))
      (fun _ _ _ _ _ hs _ _ => hs)
      ⟨⟨_, bO, NI.nil _ _ _⟩, hB0⟩
      (fun k a' W => ∃ Bx, w2.heap.size < Bx ∧ W.heap[Bx]? = some (.cells (cL (cellAt l0 k) (vA k) (vc k)).toArray 36 (0, 0)) ∧ a' = { tmps := #[.agg #[.slice A0 l0.length c0], .pointer (some ⟨w.heap.size, 0, none⟩), .slice none 0 0, .int .i64 0, .int .i64 0, .pointer (some ⟨w2.heap.size, 0, none⟩), undef, .pointer (some ⟨Bx, 0, none⟩), .agg #[.slice A0 l0.length c0], .int .i64 0, .int .i64 0, .bool false, undef, .agg #[.slice A0 l0.length c0], .func (.func 54) #[] #[.pointer (some ⟨w2.heap.size + 1, 0, none⟩)], .int .i64 (k : Int), cellV (cellAt l0 k) (vA k) (vc k), undef, undef, undef, undef, undef, undef, undef], defers := [] })
      (fun k a' _ X Y row hs hg hr => by
        obtain ⟨Bx, e1, e2, e3⟩ := hs
        exact ⟨Bx, e1, (hg.block Bx (blk_lt e2) (fun e => by
          obtain ⟨_, o, ho, hc⟩ := hr Bx e.symm
          rw [e2] at ho
          injection ho with ho
          subst ho
          cases hc)).trans e2, e3⟩)
      ?assign ?body ?done ?stop
    case assign =>
      rintro y pre k W K ⟨⟨v, hb, hN⟩, hB⟩ hK
      generalize cellAt l0 k = x at *
      gi_wp2
      exact hK _ _ ((KeepsOthers.alloc _ _).from _) ((Below.refl _ W).alloc hB.size _) ⟨⟨v, (Below.heap_alloc W _ _ (blk_lt hb)).trans hb, hN.step (fun j hj hlt => Below.heap_alloc W _ j hlt)⟩, hB.alloc hB.size _⟩ ⟨W.heap.size, blk_lt hb, heap_alloc_new W _, rfl⟩
    case body =>
      rintro y pre k a' W hl ⟨r, hr⟩ ⟨⟨v, hb, hN⟩, hB⟩ ⟨Bx, hBx, hbx, rfl⟩ hlt
      have hty := hN.typed
      obtain ⟨rows, hlr, hR, hf⟩ := hN
      obtain ⟨_, inner, hown, hreps⟩ := hR
      have hlen : rows.length < 96 := by rw [hlr, List.length_map]; have := HL.out; omega
      have hfx := HFK.out k
      have HF := Aside0.mk hf
      have HREPS := Aside0.mk hreps
      have HFX := Aside0.mk hfx
      have HLR := Aside0.mk hlr
      have HMAP := Aside0.mk (show (pre ++ [k]).map (cellAt l0) = pre.map (cellAt l0) ++ [cellAt l0 k] by simp)
      clear hf hreps hfx hlr hr
      generalize cellAt l0 k = x at *
      have q5 : W.cell? ⟨w2.heap.size, 0, none⟩ = some v := (blk_cell hb 0).trans rfl
      have x0 : W.cell? ⟨Bx, 0, none⟩ = some (.bool x.f0) := (blk_cell hbx 0).trans rfl
      have x1 : W.cell? ⟨Bx, 1, none⟩ = some (.int .u64 x.f1) := (blk_cell hbx 1).trans rfl
      have x2 : W.cell? ⟨Bx, 2, none⟩ = some (.int .u64 x.f2.f0) := (blk_cell hbx 2).trans rfl
      have x3 : W.cell? ⟨Bx, 3, none⟩ = some (.int .u64 x.f2.f1) := (blk_cell hbx 3).trans rfl
      have x4 : W.cell? ⟨Bx, 4, none⟩ = some (.slice (vA k) x.f2.f2.length (vc k)) := (blk_cell hbx 4).trans rfl
      obtain ⟨i0, hi, hz0, hz1, hz2⟩ := info_parts info_Cell
      have HB := Aside0.mk hb
      have HTY := Aside0.mk hty
      clear hb hty hbx
      gi_wp2_with (gi_at_builtin; refine wpListIn_append_own _ rfl _ _ 22 rfl w.heap.size 36 i0 (.agg #[(.bool false), (.int .u64 0), (.int .u64 0), (.int .u64 0), (.slice none 0 0)]) 5 56 Try.underlying22 hi hz0 hz1 hz2 rfl (by decide) _ _ _ rfl (hown.alloc _) ⟨W.heap.size, 0, none⟩ 1 1 (cL x (vA k) (vc k)) rfl rfl (cells5_new W x (vA k) (vc k)) (cL_one x (vA k) (vc k)) (by unfold maxLen; omega) (by omega) (by have := hB.size; simp; omega) ?_; intro v' w1' hown' hgrow _; obtain ⟨g', cap', rfl⟩ := ownsRow_succ hown'; have HOWN := Aside0.mk hown'; have HGR := Aside0.mk hgrow; have hb1 : w1'.heap[w2.heap.size]? = some (.cells #[v] 22 (0, 0)) := (hgrow.block _ (by have := blk_lt HB.out; simp; omega) (fun e => by obtain ⟨_, cells, hc⟩ := HTY.out _ e.symm; rw [HB.out] at hc; injection hc with hc; injection hc with _ hc _; exact absurd hc (by decide))).trans ((Below.heap_alloc W _ _ (blk_lt HB.out)).trans HB.out); have c1 : w1'.cell? ⟨w2.heap.size, 0, none⟩ = some v := (blk_cell hb1 0).trans rfl; have f1 : w1'.frozen? ⟨w2.heap.size, 0, none⟩ = false := blk_frozen hb1 0; have HB1' := Aside0.mk hb1; clear hb1 hgrow hown')
      have hNI1 : NI w P0_0_ w1' (.slice (some ⟨g', 0, none⟩) (rows.length + 1) cap') (pre.map (cellAt l0) ++ [x]) := by
        refine ⟨rows ++ [cL x (vA k) (vc k)], by rw [List.length_append, List.length_append, HLR.out]; rfl, ⟨fun _ _ => trivial, inner ++ cL x (vA k) (vc k), ?_, ?_⟩, ?_⟩
        · rw [List.length_append]; exact HOWN.out
        · exact Reps.snoc HREPS.out ⟨rfl, rfl, cL_one x (vA k) (vc k)⟩ rfl
        · intro j y c hy hc
          rw [List.getElem?_append] at hy hc
          rw [← HLR.out] at hy
          split at hy
          · rename_i hj
            rw [if_pos hj] at hc
            exact HF.out j y c hy hc
          · rename_i hj
            rw [if_neg hj] at hc
            have hj0 : j - rows.length = 0 := by
              rcases Nat.eq_zero_or_pos (j - rows.length) with h0 | h0
              · exact h0
              · rw [List.getElem?_eq_none (by simp; omega)] at hy
                cases hy
            rw [hj0] at hy hc
            simp only [List.getElem?_cons_zero, Option.some.injEq] at hy hc
            subst hy
            subst hc
            exact HFX.out
      have hty1 := hNI1.typed g' (by simp [Value.ownBlock])
      have hgb : g' ≠ w2.heap.size := fun e => by
        obtain ⟨_, cells, hc⟩ := hty1
        rw [e, HB1'.out] at hc
        injection hc with hc
        injection hc with _ hc _
        exact absurd hc (by decide)
      have hcut : ∀ j, j < W.heap.size → some j ≠ v.ownBlock → j ≠ w2.heap.size → (w1'.setCell ⟨w2.heap.size, 0, none⟩ (.slice (some ⟨g', 0, none⟩) (rows.length + 1) cap')).heap[j]? = W.heap[j]? := fun j hj hne hb =>
        (Below.heap_setCell w1' ⟨w2.heap.size, 0, none⟩ _ j hb).trans ((HGR.out.block j (by simp; omega) hne).trans (Below.heap_alloc W _ j hj))
      have hBK : Below w.heap.size W (w1'.setCell ⟨w2.heap.size, 0, none⟩ (.slice (some ⟨g', 0, none⟩) (rows.length + 1) cap')) :=
        ⟨HGR.out.os, HGR.out.tape, HGR.out.output, by have := HGR.out.size; simp at this ⊢; omega, fun j hj => hcut j (by have := hB.size; omega) (fun e => by have := (HTY.out j e.symm).1; omega) (by omega)⟩
      refine ⟨⟨by have := HGR.out.size; simp at this ⊢; omega, fun j o hj ho hc => (hcut j (Array.getElem?_eq_some_iff.1 ho).1 (fun e => by
        obtain ⟨_, cells, hcc⟩ := HTY.out j e.symm
        rw [ho] at hcc
        injection hcc with hcc
        subst hcc
        cases hc) (by omega)).trans ho⟩, hBK, ⟨⟨_, by simpa using blk_set HB1'.out 0 (.slice (some ⟨g', 0, none⟩) (rows.length + 1) cap'), ?_⟩, hB.trans hBK⟩⟩
      · rw [HMAP.out]
        exact hNI1.step (fun j hj _ => Below.heap_setCell w1' ⟨w2.heap.size, 0, none⟩ _ j (fun e => hgb (by simp [Value.ownBlock] at hj; rw [← hj]; exact e)))
    case done =>
      rintro D ys W hD rfl ⟨⟨v, hb, hN⟩, hB⟩ hK
      have hNN : Kd.N kC 36 W w.heap.size (fun k => (P0_0_ k ∧ k < w.heap.size) ∨ some k = v.ownBlock) v (usedL l0 l0.length) := hN.toN hB
      have q5 : W.cell? ⟨w2.heap.size, 0, none⟩ = some v := (blk_cell hb 0).trans rfl
      have hln : (usedL l0 l0.length).length = (usedI l0 l0.length).length := by unfold usedL; rw [List.length_map]
      obtain ⟨A5, c5, rfl, hl5, _⟩ := Kd.N_reads hNN
      have hS : Calls Try.prog 34 #[.slice A5 (usedL l0 l0.length).length c5, .func (.func 35) #[] #[]] W fun e w' => e = .returned (.tuple #[]) ∧ (Kd.N kC 36 w' w.heap.size (fun k => (P0_0_ k ∧ k < w.heap.size) ∨ some k = (Value.slice A5 (usedL l0 l0.length).length c5).ownBlock) (.slice A5 (usedL l0 l0.length).length c5) (rowsL l0) ∧ Fr (fun j => some j = (Value.slice A5 (usedL l0 l0.length).length c5).ownBlock) W w') := by
        by_cases h1 : (usedL l0 l0.length).length ≤ 1
        · refine sortst_small A5 (usedL l0 l0.length).length c5 _ _ _ W (by omega) ?_
          refine (ins_one (.slice A5 (usedL l0 l0.length).length c5) (usedL l0 l0.length).length _ W h1).mono ?_
          rintro e w' ⟨rfl, rfl⟩
          have he : rowsL l0 = usedL l0 l0.length := isort_of_sorted _ (by
            match hh : usedL l0 l0.length with
            | [] => exact List.Pairwise.nil
            | [x] => exact List.pairwise_singleton _ _
            | x :: y :: r => rw [hh] at h1; simp at h1)
          rw [he]
          exact ⟨rfl, hNN, Fr.refl _ _⟩
        · obtain ⟨g, cap, he, hg1, hg2, _⟩ := Kd.N_form hNN (by omega)
          injection he with he1 _ he3
          subst he1
          subst he3
          have hu : (usedL l0 l0.length).length ≤ 96 := by rw [hln]; have := usedI_len l0 l0.length; have := HL.out; omega
          refine (sortst_c g (usedL l0 l0.length).length _ _ #[] cfR w.heap.size _ W (by omega) (enters_of Try.func35 (by kernel_rfl) rfl) (fun x y A c B d W' a1 a2 a3 a4 => byrows1 x y A c B d W' a1 a2 a3 a4) so_R (usedL l0 l0.length) W hNN (Fr.refl _ _) rfl).mono ?_
          rintro e w' ⟨rfl, hN', hF'⟩
          exact ⟨rfl, hN', hF'.mono (fun j hj => by subst hj; simp [Value.ownBlock])⟩
      have HS := Aside0.mk hS
      have hbb := hNN.1
      have hnt := hN.typed
      have HLN := Aside0.mk hln
      have HNT := Aside0.mk hnt
      have HBB := Aside0.mk hbb
      clear hS hln hnt hbb
      gi_wp2_with (refine ⟨trivial, ?_⟩; gi_at_call 34; refine (callsIn_wide.2 HS.out).mono ?_; rintro e W5 ⟨rfl, hN5, hF5⟩; have HN5 := Aside0.mk hN5; have HF5 := Aside0.mk hF5; have q6 : W5.cell? ⟨w2.heap.size, 0, none⟩ = some (.slice A5 (usedL l0 l0.length).length c5) := (blk_cell (hF5.blk hb (fun e => by obtain ⟨_, cells, hc⟩ := HNT.out _ e.symm; rw [hb] at hc; injection hc with hc; injection hc with _ hc _; exact absurd hc (by decide))) 0).trans rfl; clear hN5 hF5)
      have hD5 : W5.heap[D]? = some (.deferred (some [])) := HF5.out.blk hK (fun e => by
        obtain ⟨_, cells, hc⟩ := HNT.out D e.symm
        rw [hK] at hc
        injection hc with hc
        cases hc)
      have hB5 : Below w.heap.size w W5 := hB.trans (HF5.out.toBelow hB.size (fun j hj => (HNT.out j hj.symm).1))
      refine ⟨by simp, .inl ⟨_, _, rfl, run_takeDeferred hD5, ?_⟩⟩
      refine ⟨_, results_tmp2 rfl _ _ _, _, rfl, Kd.N_mono (Kd.N_step HN5.out (w1 := W5.putObj D (.deferred none)) (fun j hj _ => ?_)) (fun j hj => ?_), hB5.trans (belowK_b (w := w) (Nat.le_refl _) W5 D _ _ (by omega) hD5 rfl rfl)⟩
      · refine (grownBy_putObj' W5 D (.deferred none)).block j (by assumption) (fun e => ?_)
        injection e with e
        subst e
        rcases hj with hj | hj
        · omega
        · obtain ⟨cells, hc⟩ := Kd.N_typed HN5.out j hj.symm
          rw [hD5] at hc
          injection hc with hc
          cases hc
      · rcases hj with hj | hj
        · exact .inl hj.1
        · exact .inr (HNT.out j hj.symm).1
    case stop =>
      rintro D c pre W _ _ h _
      exact h.elim

end Go.Proofs.Ytoblkjdiahoplaa.G
