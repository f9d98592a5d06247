/- Written by a program for this claim. -/
import Derived.Test.YtoblkjdiahoplaaPx0
import Derived.Test.YtoblkjdiahoplaaPx1
import Derived.Test.YtoblkjdiahoplaaPx7
import Derived.Test.YtoblkjdiahoplaaA4
import Derived.Test.YtoblkjdiahoplaaB2
namespace Go.Proofs.Ytoblkjdiahoplaa.P
open Go.RowKit Go.Proofs.YtoblkjdiahoplaaW.PrintWords Go.Proofs.YtoblkjdiahoplaaW.PrintLast Go.Proofs.YtoblkjdiahoplaaW.PrintMore
attribute [local go_sem] max2_int min2_int max_two min_two max_three min_three max_four min_four   -- for this text's walks alone
set_option linter.unusedVariables false
set_option linter.unusedSimpArgs false

/-! ### quiverlaw09_wakes: function 8 -/
def quiverlaw09_wakes.f  : Option (Bool) := (arena_New.f).bind fun t142 => ((quiverlaw09_one.f 1).bind fun bt145 => ((arena_Put.f t142 7 bt145.1 bt145.2.1 bt145.2.2).bind fun bt150 => ((quiverlaw09_one.f 3).bind fun bt156 => ((arena_Put.f bt150.1 2 bt156.1 bt156.2.1 bt156.2.2).bind fun bt161 => ((G.arena_ByRows.f bt161.1).bind fun bt166 => (if bt150.2.2 = 0 then (if bt161.2.2 = 0 then (if bt166.2 = 0 then (if bt150.2.1 = 0 then (if bt161.2.1 = 1 then (if (bt166.1.length : Int) = 2 then (if 0 < (bt166.1.length : Int) then (if ((rd_T36 bt166.1 0).f1) = 2 then ((G.arena_Free.f bt161.1).bind fun t171 => (some (t171 == 94))) else (some false)) else (none)) else (some false)) else (some false)) else (some false)) else (some false)) else (some false)) else (some false)))))))
def quiverlaw09_wakes.T2 : Bool × List (List Nat × List Nat) := (true, [([], []), ([], []), ([0, 1, 1], [0, 1]), ([2], [2]), ([3], [3]), ([3], [3]), ([3], [3]), ([4, 2, 0, 1, 2, 3, 4], [4]), ([5, 7, 0, 1, 2, 3, 4, 5, 7], [5]), ([6, 8, 0, 1, 2, 3, 4, 5, 6, 7, 8], [6])])
def quiverlaw09_wakes.B2 : List Nat := [0, 0, 3, 7, 15, 15, 15, 31, 191, 511]
theorem quiverlaw09_wakes.tab2 : rtab .any (opsOf Try.f8 2) = quiverlaw09_wakes.T2 := by kernel_rfl
theorem quiverlaw09_wakes.bits2 : waitsOk quiverlaw09_wakes.T2.2 quiverlaw09_wakes.B2 = true := by kernel_rfl
set_option maxRecDepth 100000 in
theorem quiverlaw09_wakes.is : quiverlaw09_wakes.f = some true := by kernel_rfl
set_option maxHeartbeats 8000000 in
set_option maxRecDepth 100000 in
theorem quiverlaw09_wakes.calls  (r : Bool) (w : World) (h : quiverlaw09_wakes.f  = some r) :
    Calls Try.prog 8 #[] w fun e w' => e = .returned (.bool r) ∧ Below w.heap.size w w' := by
  have hr_ := Aside0.mk (show r = true by rw [quiverlaw09_wakes.is] at h; exact (Option.some.inj h).symm)
  have hu26 := Try.underlying26
  have HB := Aside0.mk (Below.refl w.heap.size w)
  have H : ((arena_New.f).bind fun t142 => ((quiverlaw09_one.f 1).bind fun bt145 => ((arena_Put.f t142 7 bt145.1 bt145.2.1 bt145.2.2).bind fun bt150 => ((quiverlaw09_one.f 3).bind fun bt156 => ((arena_Put.f bt150.1 2 bt156.1 bt156.2.1 bt156.2.2).bind fun bt161 => ((G.arena_ByRows.f bt161.1).bind fun bt166 => (if bt150.2.2 = 0 then (if bt161.2.2 = 0 then (if bt166.2 = 0 then (if bt150.2.1 = 0 then (if bt161.2.1 = 1 then (if (bt166.1.length : Int) = 2 then (if 0 < (bt166.1.length : Int) then (if ((rd_T36 bt166.1 0).f1) = 2 then ((G.arena_Free.f bt161.1).bind fun t171 => (some (t171 == 94))) else (some false)) else (none)) else (some false)) else (some false)) else (some false)) else (some false)) else (some false)) else (some false)))))))) = some r := h
  clear h
  replace H := Option.bind_eq_some_iff.mp H
  obtain ⟨t142, A10, H⟩ := H
  replace H : ((quiverlaw09_one.f 1).bind fun bt145 => ((arena_Put.f t142 7 bt145.1 bt145.2.1 bt145.2.2).bind fun bt150 => ((quiverlaw09_one.f 3).bind fun bt156 => ((arena_Put.f bt150.1 2 bt156.1 bt156.2.1 bt156.2.2).bind fun bt161 => ((G.arena_ByRows.f bt161.1).bind fun bt166 => (if bt150.2.2 = 0 then (if bt161.2.2 = 0 then (if bt166.2 = 0 then (if bt150.2.1 = 0 then (if bt161.2.1 = 1 then (if (bt166.1.length : Int) = 2 then (if 0 < (bt166.1.length : Int) then (if ((rd_T36 bt166.1 0).f1) = 2 then ((G.arena_Free.f bt161.1).bind fun t171 => (some (t171 == 94))) else (some false)) else (none)) else (some false)) else (some false)) else (some false)) else (some false)) else (some false)) else (some false))))))) = some r := H
  have A1 := Aside0.mk A10
  clear A10
  replace H := Option.bind_eq_some_iff.mp H
  obtain ⟨⟨t145, t146, t147⟩, A20, H⟩ := H
  replace H : ((arena_Put.f t142 7 t145 t146 t147).bind fun bt150 => ((quiverlaw09_one.f 3).bind fun bt156 => ((arena_Put.f bt150.1 2 bt156.1 bt156.2.1 bt156.2.2).bind fun bt161 => ((G.arena_ByRows.f bt161.1).bind fun bt166 => (if bt150.2.2 = 0 then (if bt161.2.2 = 0 then (if bt166.2 = 0 then (if bt150.2.1 = 0 then (if bt161.2.1 = 1 then (if (bt166.1.length : Int) = 2 then (if 0 < (bt166.1.length : Int) then (if ((rd_T36 bt166.1 0).f1) = 2 then ((G.arena_Free.f bt161.1).bind fun t171 => (some (t171 == 94))) else (some false)) else (none)) else (some false)) else (some false)) else (some false)) else (some false)) else (some false)) else (some false)))))) = some r := H
  have A2 := Aside0.mk A20
  clear A20
  replace H := Option.bind_eq_some_iff.mp H
  obtain ⟨⟨t150, t153, t154⟩, A30, H⟩ := H
  replace H : ((quiverlaw09_one.f 3).bind fun bt156 => ((arena_Put.f t150 2 bt156.1 bt156.2.1 bt156.2.2).bind fun bt161 => ((G.arena_ByRows.f bt161.1).bind fun bt166 => (if t154 = 0 then (if bt161.2.2 = 0 then (if bt166.2 = 0 then (if t153 = 0 then (if bt161.2.1 = 1 then (if (bt166.1.length : Int) = 2 then (if 0 < (bt166.1.length : Int) then (if ((rd_T36 bt166.1 0).f1) = 2 then ((G.arena_Free.f bt161.1).bind fun t171 => (some (t171 == 94))) else (some false)) else (none)) else (some false)) else (some false)) else (some false)) else (some false)) else (some false)) else (some false))))) = some r := H
  have A3 := Aside0.mk A30
  clear A30
  replace H := Option.bind_eq_some_iff.mp H
  obtain ⟨⟨t156, t157, t158⟩, A40, H⟩ := H
  replace H : ((arena_Put.f t150 2 t156 t157 t158).bind fun bt161 => ((G.arena_ByRows.f bt161.1).bind fun bt166 => (if t154 = 0 then (if bt161.2.2 = 0 then (if bt166.2 = 0 then (if t153 = 0 then (if bt161.2.1 = 1 then (if (bt166.1.length : Int) = 2 then (if 0 < (bt166.1.length : Int) then (if ((rd_T36 bt166.1 0).f1) = 2 then ((G.arena_Free.f bt161.1).bind fun t171 => (some (t171 == 94))) else (some false)) else (none)) else (some false)) else (some false)) else (some false)) else (some false)) else (some false)) else (some false)))) = some r := H
  have A4 := Aside0.mk A40
  clear A40
  replace H := Option.bind_eq_some_iff.mp H
  obtain ⟨⟨t161, t164, t165⟩, A50, H⟩ := H
  replace H : ((G.arena_ByRows.f t161).bind fun bt166 => (if t154 = 0 then (if t165 = 0 then (if bt166.2 = 0 then (if t153 = 0 then (if t164 = 1 then (if (bt166.1.length : Int) = 2 then (if 0 < (bt166.1.length : Int) then (if ((rd_T36 bt166.1 0).f1) = 2 then ((G.arena_Free.f t161).bind fun t171 => (some (t171 == 94))) else (some false)) else (none)) else (some false)) else (some false)) else (some false)) else (some false)) else (some false)) else (some false))) = some r := H
  have A5 := Aside0.mk A50
  clear A50
  replace H := Option.bind_eq_some_iff.mp H
  obtain ⟨⟨t166, t169⟩, A60, H⟩ := H
  replace H : (if t154 = 0 then (if t165 = 0 then (if t169 = 0 then (if t153 = 0 then (if t164 = 1 then (if (t166.length : Int) = 2 then (if 0 < (t166.length : Int) then (if ((rd_T36 t166 0).f1) = 2 then ((G.arena_Free.f t161).bind fun t171 => (some (t171 == 94))) else (some false)) else (none)) else (some false)) else (some false)) else (some false)) else (some false)) else (some false)) else (some false)) = some r := H
  have A6 := Aside0.mk A60
  clear A60
  by_cases c7 : t154 = 0
  · rw [if_pos c7] at H
    have c7b0 : (t154 == 0) = true := beq_iff_eq.mpr c7
    have c7b1 : (t154 != 0) = false := bne_eq_false_iff_eq.mpr c7
    clear c7
    by_cases c8 : t165 = 0
    · rw [if_pos c8] at H
      have c8b0 : (t165 == 0) = true := beq_iff_eq.mpr c8
      have c8b1 : (t165 != 0) = false := bne_eq_false_iff_eq.mpr c8
      clear c8
      by_cases c9 : t169 = 0
      · rw [if_pos c9] at H
        have c9b0 : (t169 == 0) = true := beq_iff_eq.mpr c9
        have c9b1 : (t169 != 0) = false := bne_eq_false_iff_eq.mpr c9
        clear c9
        by_cases c10 : t153 = 0
        · rw [if_pos c10] at H
          have c10b0 : (t153 == 0) = true := beq_iff_eq.mpr c10
          have c10b1 : (t153 != 0) = false := bne_eq_false_iff_eq.mpr c10
          clear c10
          by_cases c11 : t164 = 1
          · rw [if_pos c11] at H
            have c11b0 : (t164 == 1) = true := beq_iff_eq.mpr c11
            have c11b1 : (t164 != 1) = false := bne_eq_false_iff_eq.mpr c11
            clear c11
            by_cases c12 : (t166.length : Int) = 2
            · rw [if_pos c12] at H
              have c12b0 : ((t166.length : Int) == 2) = true := beq_iff_eq.mpr c12
              have c12b1 : ((t166.length : Int) != 2) = false := bne_eq_false_iff_eq.mpr c12
              clear c12
              by_cases c13 : 0 < (t166.length : Int)
              · rw [if_pos c13] at H
                have c13b0 : decide (0 < (t166.length : Int)) = true := decide_eq_true c13
                have c13b1 : decide (0 < t166.length) = true := decide_eq_true (by omega)
                clear c13
                by_cases c14 : ((rd_T36 t166 0).f1) = 2
                · rw [if_pos c14] at H
                  have c14b0 : (((rd_T36 t166 0).f1) == 2) = true := beq_iff_eq.mpr c14
                  have c14b1 : (((rd_T36 t166 0).f1) != 2) = false := bne_eq_false_iff_eq.mpr c14
                  clear c14
                  replace H := Option.bind_eq_some_iff.mp H
                  obtain ⟨t171, A150, H⟩ := H
                  replace H : (some (t171 == 94)) = some r := H
                  have A15 := Aside0.mk A150
                  clear A150
                  obtain rfl := Option.some.inj H
                  go_enter Try.func8, Try.ntmps8
                  try go_wp2_with (first | ((with_reducible refine gate_callee (f := 25) rfl ?_); refine goesL_ (some 9) rfl rfl Try.func25 (by kernel_rfl) rfl #[] rfl (by (try simp only [List.map_toArray, List.map_cons, List.map_nil]); first | done | rfl | (simp only [List.length_drop, List.length_take]; rfl)) ?_; (with_reducible refine (arena_New.calls  t142 _ A1.out).mono ?_); rintro e w16 ⟨v143, rfl, ho0, hb⟩; refine ⟨_, rfl, ?_⟩; have n0_ := Aside0.mk (Kd.N_lower (Kd.N_mono (ok' := fun k_ => True) (Kd.S_N (Kd.S_bound ho0)) (fun k_ hk_ => trivial)) (below_size (by repeat (first | (with_reducible first | exact HB.out | apply below_alloc | apply pw_below_drewN | apply below_drew1) | exact HB.out)))); have n1_ := Aside0.mk (below_step (by repeat (first | (with_reducible first | exact HB.out | apply below_alloc | apply pw_below_drewN | apply below_drew1) | exact HB.out)) hb); clear HB; have HO144 := n0_; have HB := n1_; clear n0_ n1_; (try clear hb); (try clear hb2); (try clear hk); (try clear hi); (try clear ho0)) | ((with_reducible refine gate_callee (f := 30) rfl ?_); refine goesL_ (some 10) rfl rfl Try.func30 (by kernel_rfl) rfl #[.int .u64 1] rfl (by (try simp only [List.map_toArray, List.map_cons, List.map_nil]); first | done | rfl | (simp only [List.length_drop, List.length_take]; rfl)) ?_; (with_reducible refine (quiverlaw09_one.calls 1 t145 t146 t147 _ A2.out).mono ?_); rintro e w17 ⟨v148, rfl, ho0, hb⟩; refine ⟨_, rfl, ?_⟩; have n0_ := Aside0.mk (Kd.N_elder' (by (with_reducible repeat (first | apply Kd.N_alloc | apply Kd.N_drewN | apply Kd.N_drew)); exact HO144.out) (Kd.R_base ho0) hb); have n1_ := Aside0.mk (Kd.R_lower ho0 (below_size (by repeat (first | (with_reducible first | exact HB.out | apply below_alloc | apply pw_below_drewN | apply below_drew1) | exact HB.out)))); have n2_ := Aside0.mk (below_step (by repeat (first | (with_reducible first | exact HB.out | apply below_alloc | apply pw_below_drewN | apply below_drew1) | exact HB.out)) hb); clear HO144; clear HB; have HO144 := n0_; have HO149 := n1_; have HB := n2_; clear n0_ n1_ n2_; (try clear hb); (try clear hb2); (try clear hk); (try clear hi); (try clear ho0); obtain ⟨Ao18, co18, eo18⟩ := Kd.N_slice HO144.out; subst eo18; obtain ⟨Ao19, co19, eo19⟩ := Kd.R_slice HO149.out; subst eo19) | ((with_reducible refine gate_callee (f := 22) rfl ?_); refine goesL_ (some 11) rfl rfl Try.func22 (by kernel_rfl) rfl #[.agg #[.slice Ao18 t142.length co18], .int .u64 7, .agg #[.int .u64 t145, .int .u64 t146, .slice Ao19 t147.length co19]] rfl (by (try simp only [List.map_toArray, List.map_cons, List.map_nil]); first | done | rfl | (simp only [List.length_drop, List.length_take]; rfl)) ?_; (with_reducible refine (arena_Put.calls (fun k_ => (True ∧ some k_ ≠ (.slice Ao19 t147.length co19 : Value).ownBlock)) _ _ t142 7 t145 t146 _ _ t147 t150 t153 t154 _ ?side1 ?side2 ?side3 A3.out).mono ?_); (case side1 => exact Kd.N_V (HO144.out)); (case side2 => repeat (first | exact (Kd.R_reads' HO149.out).2.2 | (with_reducible refine Kd.C_alloc ?_ _) | (with_reducible refine Kd.C_drewN ?_ _) | (with_reducible refine Kd.C_drew ?_))); (case side3 => exact (Kd.R_reads' HO149.out).2.1); rintro e w20 ⟨v151, rfl, ho0, hb⟩; refine ⟨_, rfl, ?_⟩; have n0_ := Aside0.mk (Kd.N_elder' (by (with_reducible repeat (first | apply Kd.N_alloc | apply Kd.N_drewN | apply Kd.N_drew)); exact HO144.out) (by first | exact Kd.N_base ho0 | exact Kd.N_base (Kd.S_N ho0)) hb); have n1_ := Aside0.mk (Kd.R_below (by (with_reducible repeat (first | apply Kd.R_alloc | apply Kd.R_drewN | apply Kd.R_drew)); exact HO149.out) hb); have n2_ := Aside0.mk (Kd.N_lower (Kd.N_mono (ok' := fun k_ => some k_ ≠ (.slice Ao19 t147.length co19 : Value).ownBlock) ho0 (fun k_ hk_ => Or.elim hk_ (fun hs_ => hs_.2) (fun hn_ => (Kd.fresh' (Kd.R_lt (by (with_reducible repeat (first | apply Kd.R_alloc | apply Kd.R_drewN | apply Kd.R_drew)); exact HO149.out)) k_ hn_)))) (below_size (by repeat (first | (with_reducible first | exact HB.out | apply below_alloc | apply pw_below_drewN | apply below_drew1) | exact HB.out)))); have n3_ := Aside0.mk (below_step (by repeat (first | (with_reducible first | exact HB.out | apply below_alloc | apply pw_below_drewN | apply below_drew1) | exact HB.out)) hb); clear HO144; clear HO149; clear HB; have HO144 := n0_; have HO149 := n1_; have HO152 := n2_; have HB := n3_; clear n0_ n1_ n2_ n3_; (try clear hb); (try clear hb2); (try clear hk); (try clear hi); (try clear ho0)) | ((with_reducible refine gate_dst (N := 1) rfl ?_); (try (refine gate_guard (by rfl) ?_; dsimp only)); refine box_event ?hg (N := 1) ?hd (cs := #[.slice none 0 0]) (t := 26) ?hr ?_; (case hd => rfl); (case hg => rfl); (case hr => first | (go_simp; done) | (go_simp; rfl)); intro gb155 hg w21 hbox hb; have n0_ := Aside0.mk (Kd.N_below (Kd.N_elderB (by (with_reducible repeat (first | apply Kd.N_alloc | apply Kd.N_drewN | apply Kd.N_drew)); exact HO144.out) gb155 (Nat.le_of_eq hg.symm)) hb); have n1_ := Aside0.mk (Kd.R_below (by (with_reducible repeat (first | apply Kd.R_alloc | apply Kd.R_drewN | apply Kd.R_drew)); exact HO149.out) hb); have n2_ := Aside0.mk (Kd.N_below (Kd.N_elderB (by (with_reducible repeat (first | apply Kd.N_alloc | apply Kd.N_drewN | apply Kd.N_drew)); exact HO152.out) gb155 (Nat.le_of_eq hg.symm)) hb); have n3_ := Aside0.mk (below_step (by repeat (first | (with_reducible first | exact HB.out | apply below_alloc | apply pw_below_drewN | apply below_drew1) | exact HB.out)) hb); have n4_ := Aside0.mk (hbox); have n5_ := Aside0.mk ((by rw [hg]; exact (below_size (by repeat (first | (with_reducible first | exact HB.out | apply below_alloc | apply pw_below_drewN | apply below_drew1) | exact HB.out))) : w.heap.size ≤ gb155)); have n6_ := Aside0.mk ((by rw [hg]; exact (below_size (by repeat (first | (with_reducible first | exact HB.out | apply below_alloc | apply pw_below_drewN | apply below_drew1) | exact HB.out))) : w.heap.size ≤ gb155)); clear HO144; clear HO149; clear HO152; clear HB; have HO144 := n0_; have HO149 := n1_; have HO152 := n2_; have HB := n3_; have BK155 := n4_; have GW155 := n5_; have GE155 := n6_; clear n0_ n1_ n2_ n3_ n4_ n5_ n6_; clear hb hbox hg; obtain ⟨Ao22, co22, eo22⟩ := Kd.N_slice HO152.out; subst eo22; have hcz23_0 : w21.cell? ⟨gb155, 0, none⟩ = some (.slice none 0 0) := (blk_cell BK155.out 0).trans rfl; have hfz23_0 := blk_frozen BK155.out 0))
                  have n0_ : Aside0 (Kd.N k36 36 (w21.setCell ⟨gb155, 0, none⟩ (.slice Ao22 t150.length co22)) w.heap.size (fun k_ => some k_ ≠ (.slice Ao19 t147.length co19 : Value).ownBlock ∧ some k_ ≠ (.slice Ao22 t150.length co22 : Value).ownBlock ∧ k_ ≠ gb155) (.slice Ao18 t142.length co18) t142) := ⟨by (with_reducible repeat (first | apply Kd.N_alloc | apply Kd.N_drewN | apply Kd.N_drew)); exact Kd.N_mono (Kd.N_far (p := ⟨gb155, 0, none⟩) (Kd.N_mono HO144.out (fun k_ hk => (⟨hk, hk.2⟩ : _ ∧ k_ ≠ gb155))) (fun _ hk => hk.2) (.slice Ao22 t150.length co22)) (fun _ hk => ⟨hk.1.1.1.2, ⟨hk.1.1.2, hk.1.2⟩⟩)⟩
                  have n1_ : Aside0 (Kd.R (Kd.int .i32) 21 (w21.setCell ⟨gb155, 0, none⟩ (.slice Ao22 t150.length co22)) w.heap.size (fun _ => True) (.slice Ao19 t147.length co19) t147) := ⟨by (with_reducible repeat (first | apply Kd.R_alloc | apply Kd.R_drewN | apply Kd.R_drew)); exact Kd.R_mono (Kd.R_far (p := ⟨gb155, 0, none⟩) (Kd.R_types HO149.out BK155.out (by decide)) (fun _ hk => hk.2) (.slice Ao22 t150.length co22)) (fun _ hk => trivial)⟩
                  have n2_ : Aside0 (Kd.N k36 36 (w21.setCell ⟨gb155, 0, none⟩ (.slice Ao22 t150.length co22)) w.heap.size (fun k_ => some k_ ≠ (.slice Ao19 t147.length co19 : Value).ownBlock ∧ k_ ≠ gb155) (.slice Ao22 t150.length co22) t150) := ⟨by (with_reducible repeat (first | apply Kd.N_alloc | apply Kd.N_drewN | apply Kd.N_drew)); exact Kd.N_mono (Kd.N_far (p := ⟨gb155, 0, none⟩) (Kd.N_mono HO152.out (fun k_ hk => (⟨hk, hk.2⟩ : _ ∧ k_ ≠ gb155))) (fun _ hk => hk.2) (.slice Ao22 t150.length co22)) (fun _ hk => ⟨hk.1.1, hk.1.2⟩)⟩
                  have n3_ : Aside0 ((w21.setCell ⟨gb155, 0, none⟩ (.slice Ao22 t150.length co22)).heap[gb155]? = some (.cells #[.slice Ao22 t150.length co22] 26 (0, 0))) := ⟨by (with_reducible repeat (first | refine blk_drewN ?_ _ | refine blk_drew ?_ | refine blk_alloc ?_ _)); refine blk_put (cs := #[.slice none 0 0]) ?_ 0 _ rfl; (with_reducible repeat (first | refine blk_drewN ?_ _ | refine blk_drew ?_ | refine blk_alloc ?_ _)); exact BK155.out⟩
                  have n4_ : Aside0 (Below w.heap.size w (w21.setCell ⟨gb155, 0, none⟩ (.slice Ao22 t150.length co22))) := ⟨by repeat (first | (with_reducible first | exact HB.out | apply below_alloc | apply pw_below_drewN | apply below_drew1 | refine below_set ?_ GE155.out) | exact HB.out)⟩
                  (try clear HO144)
                  (try clear HO149)
                  (try clear HO152)
                  (try clear BK155)
                  (try clear HB)
                  generalize (w21.setCell ⟨gb155, 0, none⟩ (.slice Ao22 t150.length co22)) = w24 at n0_ n1_ n2_ n3_ n4_ ⊢
                  have HO144 := n0_
                  have HO149 := n1_
                  have HO152 := n2_
                  have BK155 := n3_
                  have HB := n4_
                  clear n0_ n1_ n2_ n3_ n4_
                  have n0_ := Aside0.mk (Kd.N_drew HO144.out)
                  have n1_ := Aside0.mk (Kd.R_drew HO149.out)
                  have n2_ := Aside0.mk (Kd.N_drew HO152.out)
                  have n3_ := Aside0.mk (blk_drew BK155.out)
                  have n4_ := Aside0.mk (below_drew1 HB.out)
                  clear HO144
                  clear HO149
                  clear HO152
                  clear BK155
                  clear HB
                  have HO144 := n0_
                  have HO149 := n1_
                  have HO152 := n2_
                  have BK155 := n3_
                  have HB := n4_
                  clear n0_ n1_ n2_ n3_ n4_
                  refine start_ (n := 10) (S := fun w' => w'.cell? ⟨gb155, 0, none⟩ = some (.slice Ao22 t150.length co22)) (ds := [7]) #[false, false, false, false, false, false, false, false, false, false] (by kernel_rfl) rfl rfl ((blk_cell BK155.out 0).trans rfl) (fun hHeld => ?_); refine with_tabW quiverlaw09_wakes.tab2 quiverlaw09_wakes.bits2 (fun HT_ HW_ => ?_)
                  generalize w24.drew = w25 at HO144 HO149 HO152 BK155 HB hHeld ⊢
                  refine take_ (i := 0) (N := some 16) (v := ?_) (a' := ?_) #[true, false, false, false, false, false, false, false, false, false] rfl rfl (take_ofW HT_.out HW_.out (by kernel_rfl)) (fun _ _ _ h => h) (Or.inl ⟨by rfl, ?_⟩) hHeld ?_ ?_
                  rotate_left
                  · intro w' s0
                    go_simp
                    with_reducible rfl
                  rotate_left
                  · simp only [Act.put, List.setIfInBounds_toArray, List.set_cons_zero, List.set_cons_succ, i64_w, i32_w]
                    rfl
                  refine one_ (i := 1) (N := some 17) #[true, true, false, false, false, false, false, false, false, false] rfl rfl (one_of HT_.out (by kernel_rfl)) (by decide) (fun K hK => ?_)
                  refine goes_ Try.func30 (by kernel_rfl) rfl #[.int .u64 3] (by rfl) rfl rfl (by (try simp only [List.map_toArray, List.map_cons, List.map_nil]); first | done | rfl | (simp only [List.length_drop, List.length_take]; rfl)) ?_
                  with_reducible refine (quiverlaw09_one.calls 3 t156 t157 t158 _ A4.out).mono ?_
                  rintro e w26 ⟨v159, rfl, ho0, hb⟩
                  refine ⟨_, rfl, ?_⟩
                  have n0_ := Aside0.mk (Kd.N_elder' (by (with_reducible repeat (first | apply Kd.N_alloc | apply Kd.N_drewN | apply Kd.N_drew)); exact HO144.out) (Kd.R_base ho0) hb)
                  have n1_ := Aside0.mk (Kd.R_elder' (by (with_reducible repeat (first | apply Kd.R_alloc | apply Kd.R_drewN | apply Kd.R_drew)); exact HO149.out) (Kd.R_base ho0) hb)
                  have n2_ := Aside0.mk (Kd.N_elder' (by (with_reducible repeat (first | apply Kd.N_alloc | apply Kd.N_drewN | apply Kd.N_drew)); exact HO152.out) (Kd.R_base ho0) hb)
                  have n3_ := Aside0.mk (Kd.R_lower (Kd.R_new' ho0 (Kd.R_lt (by (with_reducible repeat (first | apply Kd.R_alloc | apply Kd.R_drewN | apply Kd.R_drew)); exact HO149.out))) (below_size (by repeat (first | (with_reducible first | exact HB.out | apply below_alloc | apply pw_below_drewN | apply below_drew1 | refine below_set ?_ GE155.out) | exact HB.out))))
                  have n4_ := Aside0.mk (blk_below (g := gb155) (o := .cells #[.slice Ao22 t150.length co22] 26 (0, 0)) (by (with_reducible repeat (first | refine blk_drewN ?_ _ | refine blk_drew ?_ | refine blk_alloc ?_ _)); exact BK155.out) hb)
                  have n5_ := Aside0.mk (below_step (by repeat (first | (with_reducible first | exact HB.out | apply below_alloc | apply pw_below_drewN | apply below_drew1 | refine below_set ?_ GE155.out) | exact HB.out)) hb)
                  clear HO144
                  clear HO149
                  clear HO152
                  clear BK155
                  clear HB
                  have HO144 := n0_
                  have HO149 := n1_
                  have HO152 := n2_
                  have HO160 := n3_
                  have BK155 := n4_
                  have HB := n5_
                  clear n0_ n1_ n2_ n3_ n4_ n5_
                  (try clear hb)
                  (try clear hb2)
                  (try clear hk)
                  (try clear hi)
                  (try clear ho0)
                  obtain ⟨Ao27, co27, eo27⟩ := Kd.R_slice HO160.out
                  (first | subst eo27 | (injection eo27 with f1_ f2_ f3_; have f4_ := f1_.symm; have f5_ := f3_.symm; clear f1_ f2_ f3_; subst f4_; subst f5_))
                  refine hK.out _ _ ((blk_cell BK155.out 0).trans rfl) (fun hHeld => ?_)
                  clear hK K
                  refine norm_ (a' := ?_) ?_ ?_
                  rotate_left
                  · show Act.put _ (some 17) _ = _
                    simp only [Act.put, List.setIfInBounds_toArray, List.set_cons_zero, List.set_cons_succ, i64_w, i32_w]
                    rfl
                  refine one_ (i := 2) (N := some 18) #[true, true, true, false, false, false, false, false, false, false] rfl rfl (one_of HT_.out (by kernel_rfl)) (by decide) (fun K hK => ?_)
                  refine goes_ Try.func22 (by kernel_rfl) rfl #[.agg #[.slice Ao22 t150.length co22], .int .u64 2, .agg #[.int .u64 t156, .int .u64 t157, .slice Ao27 t158.length co27]] (by rfl) rfl rfl (by (try simp only [List.map_toArray, List.map_cons, List.map_nil]); first | done | rfl | (simp only [List.length_drop, List.length_take]; rfl)) ?_
                  with_reducible refine (arena_Put.calls (fun k_ => ((some k_ ≠ (.slice Ao19 t147.length co19 : Value).ownBlock ∧ k_ ≠ gb155) ∧ some k_ ≠ (.slice Ao27 t158.length co27 : Value).ownBlock)) _ _ t150 2 t156 t157 _ _ t158 t161 t164 t165 _ ?side1 ?side2 ?side3 A5.out).mono ?_
                  (case side1 => exact Kd.N_V (HO152.out))
                  (case side2 => repeat (first | exact (Kd.R_reads' HO160.out).2.2 | (with_reducible refine Kd.C_alloc ?_ _) | (with_reducible refine Kd.C_drewN ?_ _) | (with_reducible refine Kd.C_drew ?_)))
                  (case side3 => exact (Kd.R_reads' HO160.out).2.1)
                  rintro e w28 ⟨v162, rfl, ho0, hb⟩
                  refine ⟨_, rfl, ?_⟩
                  have n0_ := Aside0.mk (Kd.N_elder' (by (with_reducible repeat (first | apply Kd.N_alloc | apply Kd.N_drewN | apply Kd.N_drew)); exact HO144.out) (by first | exact Kd.N_base ho0 | exact Kd.N_base (Kd.S_N ho0)) hb)
                  have n1_ := Aside0.mk (Kd.R_below (by (with_reducible repeat (first | apply Kd.R_alloc | apply Kd.R_drewN | apply Kd.R_drew)); exact HO149.out) hb)
                  have n2_ := Aside0.mk (Kd.N_elder' (by (with_reducible repeat (first | apply Kd.N_alloc | apply Kd.N_drewN | apply Kd.N_drew)); exact HO152.out) (by first | exact Kd.N_base ho0 | exact Kd.N_base (Kd.S_N ho0)) hb)
                  have n3_ := Aside0.mk (Kd.R_below (by (with_reducible repeat (first | apply Kd.R_alloc | apply Kd.R_drewN | apply Kd.R_drew)); exact HO160.out) hb)
                  have n4_ := Aside0.mk (Kd.N_lower (Kd.N_mono (ok' := fun k_ => some k_ ≠ (.slice Ao19 t147.length co19 : Value).ownBlock ∧ some k_ ≠ (.slice Ao27 t158.length co27 : Value).ownBlock ∧ k_ ≠ gb155) ho0 (fun k_ hk_ => ⟨Or.elim hk_ (fun hs_ => hs_.1.1) (fun hn_ => (Kd.fresh' (Kd.R_lt (by (with_reducible repeat (first | apply Kd.R_alloc | apply Kd.R_drewN | apply Kd.R_drew)); exact HO149.out)) k_ hn_)), Or.elim hk_ (fun hs_ => hs_.2) (fun hn_ => (Kd.fresh' (Kd.R_lt (by (with_reducible repeat (first | apply Kd.R_alloc | apply Kd.R_drewN | apply Kd.R_drew)); exact HO160.out)) k_ hn_)), Or.elim hk_ (fun hs_ => hs_.1.2) (fun hn_ => (Kd.freshB (g := gb155) (o := .cells #[.slice Ao22 t150.length co22] 26 (0, 0)) (by (with_reducible repeat (first | refine blk_drewN ?_ _ | refine blk_drew ?_ | refine blk_alloc ?_ _)); exact BK155.out) k_ hn_))⟩)) (below_size (by repeat (first | (with_reducible first | exact HB.out | apply below_alloc | apply pw_below_drewN | apply below_drew1 | refine below_set ?_ GE155.out) | exact HB.out))))
                  have n5_ := Aside0.mk (blk_below (g := gb155) (o := .cells #[.slice Ao22 t150.length co22] 26 (0, 0)) (by (with_reducible repeat (first | refine blk_drewN ?_ _ | refine blk_drew ?_ | refine blk_alloc ?_ _)); exact BK155.out) hb)
                  have n6_ := Aside0.mk (below_step (by repeat (first | (with_reducible first | exact HB.out | apply below_alloc | apply pw_below_drewN | apply below_drew1 | refine below_set ?_ GE155.out) | exact HB.out)) hb)
                  clear HO144
                  clear HO149
                  clear HO152
                  clear HO160
                  clear BK155
                  clear HB
                  have HO144 := n0_
                  have HO149 := n1_
                  have HO152 := n2_
                  have HO160 := n3_
                  have HO163 := n4_
                  have BK155 := n5_
                  have HB := n6_
                  clear n0_ n1_ n2_ n3_ n4_ n5_ n6_
                  (try clear hb)
                  (try clear hb2)
                  (try clear hk)
                  (try clear hi)
                  (try clear ho0)
                  obtain ⟨Ao29, co29, eo29⟩ := Kd.N_slice HO163.out
                  (first | subst eo29 | (injection eo29 with f1_ f2_ f3_; have f4_ := f1_.symm; have f5_ := f3_.symm; clear f1_ f2_ f3_; subst f4_; subst f5_))
                  refine hK.out _ _ ((blk_cell BK155.out 0).trans rfl) (fun hHeld => ?_)
                  clear hK K
                  refine norm_ (a' := ?_) ?_ ?_
                  rotate_left
                  · show Act.put _ (some 18) _ = _
                    simp only [Act.put, List.setIfInBounds_toArray, List.set_cons_zero, List.set_cons_succ, i64_w, i32_w]
                    rfl
                  refine pure_ (i := 3) (N := some 15) (v := ?_) (a' := ?_) #[true, true, true, true, false, false, false, false, false, false] rfl rfl (any_of HT_.out (by kernel_rfl)) (fun _ _ _ h => h) (Or.inl ⟨by rfl, ?_⟩) ?_ ?_
                  rotate_left
                  · intro w'
                    go_simp
                    with_reducible rfl
                  rotate_left
                  · simp only [Act.put, List.setIfInBounds_toArray, List.set_cons_zero, List.set_cons_succ, i64_w, i32_w]
                    rfl
                  refine pure_ (i := 4) (N := some 19) (v := ?_) (a' := ?_) #[true, true, true, true, true, false, false, false, false, false] rfl rfl (any_of HT_.out (by kernel_rfl)) (fun _ _ _ h => h) (Or.inl ⟨by rfl, ?_⟩) ?_ ?_
                  rotate_left
                  · intro w'
                    go_simp
                    with_reducible rfl
                  rotate_left
                  · simp only [Act.put, List.setIfInBounds_toArray, List.set_cons_zero, List.set_cons_succ, i64_w, i32_w]
                    rfl
                  refine pure_ (i := 5) (N := some 20) (v := ?_) (a' := ?_) #[true, true, true, true, true, true, false, false, false, false] rfl rfl (any_of HT_.out (by kernel_rfl)) (fun _ _ _ h => h) (Or.inl ⟨by rfl, ?_⟩) ?_ ?_
                  rotate_left
                  · intro w'
                    go_simp
                    with_reducible rfl
                  rotate_left
                  · simp only [Act.put, List.setIfInBounds_toArray, List.set_cons_zero, List.set_cons_succ, i64_w, i32_w]
                    rfl
                  refine pure_ (i := 6) (N := some 21) (v := ?_) (a' := ?_) #[true, true, true, true, true, true, true, false, false, false] rfl rfl (any_of HT_.out (by kernel_rfl)) (fun _ _ _ h => h) (Or.inl ⟨by rfl, ?_⟩) ?_ ?_
                  rotate_left
                  · intro w'
                    go_simp
                    with_reducible rfl
                  rotate_left
                  · simp only [Act.put, List.setIfInBounds_toArray, List.set_cons_zero, List.set_cons_succ, i64_w, i32_w]
                    rfl
                  refine last_ (i := 7) (N := none) #[true, true, true, true, true, true, true, true, false, false] rfl rfl (one_of HT_.out (by kernel_rfl)) (by decide) (fun K hK => ?_)
                  have hs30 : w28.cell? ⟨gb155, 0, none⟩ = some (.slice Ao22 t150.length co22) := (blk_cell BK155.out 0).trans rfl
                  have hfs30 := blk_frozen BK155.out 0
                  refine skip_ (w1 := ?_) (by rfl) rfl ?_ ?_
                  rotate_left
                  · go_simp
                    rfl
                  refine hK.out _ _ ?_
                  clear hK K
                  refine pure_ (i := 8) (N := some 4) (v := ?_) (a' := ?_) #[true, true, true, true, true, true, true, true, true, false] rfl rfl (any_of HT_.out (by kernel_rfl)) (fun _ _ _ h => h) (Or.inl ⟨by rfl, ?_⟩) ?_ ?_
                  rotate_left
                  · intro w'
                    go_simp
                    with_reducible rfl
                  rotate_left
                  · simp only [Act.put, List.setIfInBounds_toArray, List.set_cons_zero, List.set_cons_succ, i64_w, i32_w]
                    rfl
                  refine pure_ (i := 9) (N := some 5) (v := ?_) (a' := ?_) #[true, true, true, true, true, true, true, true, true, true] rfl rfl (any_of HT_.out (by kernel_rfl)) (fun _ _ _ h => h) (Or.inl ⟨by rfl, ?_⟩) ?_ ?_
                  rotate_left
                  · intro w'
                    go_simp
                    with_reducible rfl
                  rotate_left
                  · simp only [Act.put, List.setIfInBounds_toArray, List.set_cons_zero, List.set_cons_succ, i64_w, i32_w]
                    rfl
                  refine done_ (done_of HT_.out (by kernel_rfl)) ?_
                  have n0_ : Aside0 (Kd.N k36 36 (w28.setCell ⟨gb155, 0, none⟩ (.slice Ao29 t161.length co29)) w.heap.size (fun k_ => some k_ ≠ (.slice Ao19 t147.length co19 : Value).ownBlock ∧ some k_ ≠ (.slice Ao22 t150.length co22 : Value).ownBlock ∧ some k_ ≠ (.slice Ao27 t158.length co27 : Value).ownBlock ∧ some k_ ≠ (.slice Ao29 t161.length co29 : Value).ownBlock ∧ k_ ≠ gb155) (.slice Ao18 t142.length co18) t142) := ⟨by (with_reducible repeat (first | apply Kd.N_alloc | apply Kd.N_drewN | apply Kd.N_drew)); exact Kd.N_mono (Kd.N_far (p := ⟨gb155, 0, none⟩) (Kd.N_mono HO144.out (fun k_ hk => (⟨hk, hk.1.1.2.2⟩ : _ ∧ k_ ≠ gb155))) (fun _ hk => hk.2) (.slice Ao29 t161.length co29)) (fun _ hk => ⟨hk.1.1.1.1, ⟨hk.1.1.1.2.1, ⟨hk.1.1.2, ⟨hk.1.2, hk.1.1.1.2.2⟩⟩⟩⟩)⟩
                  have n1_ : Aside0 (Kd.R (Kd.int .i32) 21 (w28.setCell ⟨gb155, 0, none⟩ (.slice Ao29 t161.length co29)) w.heap.size (fun k_ => some k_ ≠ (.slice Ao27 t158.length co27 : Value).ownBlock) (.slice Ao19 t147.length co19) t147) := ⟨by (with_reducible repeat (first | apply Kd.R_alloc | apply Kd.R_drewN | apply Kd.R_drew)); exact Kd.R_mono (Kd.R_far (p := ⟨gb155, 0, none⟩) (Kd.R_types HO149.out BK155.out (by decide)) (fun _ hk => hk.2) (.slice Ao29 t161.length co29)) (fun _ hk => hk.1.2)⟩
                  have n2_ : Aside0 (Kd.N k36 36 (w28.setCell ⟨gb155, 0, none⟩ (.slice Ao29 t161.length co29)) w.heap.size (fun k_ => some k_ ≠ (.slice Ao19 t147.length co19 : Value).ownBlock ∧ some k_ ≠ (.slice Ao27 t158.length co27 : Value).ownBlock ∧ some k_ ≠ (.slice Ao29 t161.length co29 : Value).ownBlock ∧ k_ ≠ gb155) (.slice Ao22 t150.length co22) t150) := ⟨by (with_reducible repeat (first | apply Kd.N_alloc | apply Kd.N_drewN | apply Kd.N_drew)); exact Kd.N_mono (Kd.N_far (p := ⟨gb155, 0, none⟩) (Kd.N_mono HO152.out (fun k_ hk => (⟨hk, hk.1.1.2⟩ : _ ∧ k_ ≠ gb155))) (fun _ hk => hk.2) (.slice Ao29 t161.length co29)) (fun _ hk => ⟨hk.1.1.1.1, ⟨hk.1.1.2, ⟨hk.1.2, hk.1.1.1.2⟩⟩⟩)⟩
                  have n3_ : Aside0 (Kd.R (Kd.int .i32) 21 (w28.setCell ⟨gb155, 0, none⟩ (.slice Ao29 t161.length co29)) w.heap.size (fun k_ => some k_ ≠ (.slice Ao19 t147.length co19 : Value).ownBlock) (.slice Ao27 t158.length co27) t158) := ⟨by (with_reducible repeat (first | apply Kd.R_alloc | apply Kd.R_drewN | apply Kd.R_drew)); exact Kd.R_mono (Kd.R_far (p := ⟨gb155, 0, none⟩) (Kd.R_types HO160.out BK155.out (by decide)) (fun _ hk => hk.2) (.slice Ao29 t161.length co29)) (fun _ hk => hk.1.2)⟩
                  have n4_ : Aside0 (Kd.N k36 36 (w28.setCell ⟨gb155, 0, none⟩ (.slice Ao29 t161.length co29)) w.heap.size (fun k_ => some k_ ≠ (.slice Ao19 t147.length co19 : Value).ownBlock ∧ some k_ ≠ (.slice Ao27 t158.length co27 : Value).ownBlock ∧ k_ ≠ gb155) (.slice Ao29 t161.length co29) t161) := ⟨by (with_reducible repeat (first | apply Kd.N_alloc | apply Kd.N_drewN | apply Kd.N_drew)); exact Kd.N_mono (Kd.N_far (p := ⟨gb155, 0, none⟩) (Kd.N_mono HO163.out (fun k_ hk => (⟨hk, hk.2.2⟩ : _ ∧ k_ ≠ gb155))) (fun _ hk => hk.2) (.slice Ao29 t161.length co29)) (fun _ hk => ⟨hk.1.1, ⟨hk.1.2.1, hk.1.2.2⟩⟩)⟩
                  have n5_ : Aside0 ((w28.setCell ⟨gb155, 0, none⟩ (.slice Ao29 t161.length co29)).heap[gb155]? = some (.cells #[.slice Ao29 t161.length co29] 26 (0, 0))) := ⟨by (with_reducible repeat (first | refine blk_drewN ?_ _ | refine blk_drew ?_ | refine blk_alloc ?_ _)); refine blk_put (cs := #[.slice Ao22 t150.length co22]) ?_ 0 _ rfl; (with_reducible repeat (first | refine blk_drewN ?_ _ | refine blk_drew ?_ | refine blk_alloc ?_ _)); exact BK155.out⟩
                  have n6_ : Aside0 (Below w.heap.size w (w28.setCell ⟨gb155, 0, none⟩ (.slice Ao29 t161.length co29))) := ⟨by repeat (first | (with_reducible first | exact HB.out | apply below_alloc | apply pw_below_drewN | apply below_drew1 | refine below_set ?_ GE155.out) | exact HB.out)⟩
                  (try clear HO144)
                  (try clear HO149)
                  (try clear HO152)
                  (try clear HO160)
                  (try clear HO163)
                  (try clear BK155)
                  (try clear HB)
                  generalize (w28.setCell ⟨gb155, 0, none⟩ (.slice Ao29 t161.length co29)) = w31 at n0_ n1_ n2_ n3_ n4_ n5_ n6_ ⊢
                  have HO144 := n0_
                  have HO149 := n1_
                  have HO152 := n2_
                  have HO160 := n3_
                  have HO163 := n4_
                  have BK155 := n5_
                  have HB := n6_
                  clear n0_ n1_ n2_ n3_ n4_ n5_ n6_
                  have hcz32_0 : w31.cell? ⟨gb155, 0, none⟩ = some (.slice Ao29 t161.length co29) := (blk_cell BK155.out 0).trans rfl
                  have hfz32_0 := blk_frozen BK155.out 0
                  try go_wp2_with (first | ((with_reducible refine gate_callee (f := 16) rfl ?_); refine goesL_ (some 24) rfl rfl Try.func16 (by kernel_rfl) rfl #[.agg #[.slice Ao29 t161.length co29]] rfl (by (try simp only [List.map_toArray, List.map_cons, List.map_nil]); first | done | rfl | (simp only [List.length_drop, List.length_take]; rfl)) ?_; (with_reducible refine (G.arena_ByRows.calls (fun k_ => (some k_ ≠ (.slice Ao19 t147.length co19 : Value).ownBlock ∧ (some k_ ≠ (.slice Ao27 t158.length co27 : Value).ownBlock ∧ k_ ≠ gb155))) _ _ t161 t166 t169 _ ?side1 A6.out).mono ?_); (case side1 => exact Kd.N_V (HO163.out)); rintro e w33 ⟨v167, rfl, ho0, hb⟩; refine ⟨_, rfl, ?_⟩; have n0_ := Aside0.mk (Kd.N_elder' (by (with_reducible repeat (first | apply Kd.N_alloc | apply Kd.N_drewN | apply Kd.N_drew)); exact HO144.out) (by first | exact Kd.N_base ho0 | exact Kd.N_base (Kd.S_N ho0)) hb); have n1_ := Aside0.mk (Kd.R_below (by (with_reducible repeat (first | apply Kd.R_alloc | apply Kd.R_drewN | apply Kd.R_drew)); exact HO149.out) hb); have n2_ := Aside0.mk (Kd.N_elder' (by (with_reducible repeat (first | apply Kd.N_alloc | apply Kd.N_drewN | apply Kd.N_drew)); exact HO152.out) (by first | exact Kd.N_base ho0 | exact Kd.N_base (Kd.S_N ho0)) hb); have n3_ := Aside0.mk (Kd.R_below (by (with_reducible repeat (first | apply Kd.R_alloc | apply Kd.R_drewN | apply Kd.R_drew)); exact HO160.out) hb); have n4_ := Aside0.mk (Kd.N_elder' (by (with_reducible repeat (first | apply Kd.N_alloc | apply Kd.N_drewN | apply Kd.N_drew)); exact HO163.out) (by first | exact Kd.N_base ho0 | exact Kd.N_base (Kd.S_N ho0)) hb); have n5_ := Aside0.mk (Kd.N_lower (Kd.N_mono (ok' := fun k_ => some k_ ≠ (.slice Ao19 t147.length co19 : Value).ownBlock ∧ some k_ ≠ (.slice Ao27 t158.length co27 : Value).ownBlock ∧ k_ ≠ gb155) ho0 (fun k_ hk_ => ⟨Or.elim hk_ (fun hs_ => hs_.1) (fun hn_ => (Kd.fresh' (Kd.R_lt (by (with_reducible repeat (first | apply Kd.R_alloc | apply Kd.R_drewN | apply Kd.R_drew)); exact HO149.out)) k_ hn_)), Or.elim hk_ (fun hs_ => hs_.2.1) (fun hn_ => (Kd.fresh' (Kd.R_lt (by (with_reducible repeat (first | apply Kd.R_alloc | apply Kd.R_drewN | apply Kd.R_drew)); exact HO160.out)) k_ hn_)), Or.elim hk_ (fun hs_ => hs_.2.2) (fun hn_ => (Kd.freshB (g := gb155) (o := .cells #[.slice Ao29 t161.length co29] 26 (0, 0)) (by (with_reducible repeat (first | refine blk_drewN ?_ _ | refine blk_drew ?_ | refine blk_alloc ?_ _)); exact BK155.out) k_ hn_))⟩)) (below_size (by repeat (first | (with_reducible first | exact HB.out | apply below_alloc | apply pw_below_drewN | apply below_drew1 | refine below_set ?_ GE155.out) | exact HB.out)))); have n6_ := Aside0.mk (blk_below (g := gb155) (o := .cells #[.slice Ao29 t161.length co29] 26 (0, 0)) (by (with_reducible repeat (first | refine blk_drewN ?_ _ | refine blk_drew ?_ | refine blk_alloc ?_ _)); exact BK155.out) hb); have n7_ := Aside0.mk (below_step (by repeat (first | (with_reducible first | exact HB.out | apply below_alloc | apply pw_below_drewN | apply below_drew1 | refine below_set ?_ GE155.out) | exact HB.out)) hb); clear HO144; clear HO149; clear HO152; clear HO160; clear HO163; clear BK155; clear HB; have HO144 := n0_; have HO149 := n1_; have HO152 := n2_; have HO160 := n3_; have HO163 := n4_; have HO168 := n5_; have BK155 := n6_; have HB := n7_; clear n0_ n1_ n2_ n3_ n4_ n5_ n6_ n7_; (try clear hb); (try clear hb2); (try clear hk); (try clear hi); (try clear ho0); obtain ⟨Ao34, co34, eo34⟩ := Kd.N_slice HO168.out; subst eo34; have p170 : 0 ≤ (0 : Int) := (by omega); have q170 : 0 < (t166.length : Int) := of_decide_eq_true (by first | (with_reducible assumption) | assumption); obtain ⟨ad170, A170_4, c170_4, e170, hx170_0, hx170_1, hx170_2, hx170_3, hx170_4, hl170_4, hi170_4⟩ := at_T36 (Kd.N_reads' HO168.out).2.2 0 p170 q170; cases e170; obtain ⟨ce170, hce170, hMe170, hcc170⟩ := Kd.N_get HO168.out z36 0 p170 (by first | exact q170 | exact of_decide_eq_true (by first | (with_reducible assumption) | assumption) | (have e_ := (Kd.N_reads' HO168.out).1; omega)); obtain ⟨ua170_4, uc170_4, rfl, ul170_4, ge170_4⟩ := k36_openF hMe170; have hv170_4 := hcc170 4 _ rfl; rw [add_field _ _ 4 (by omega)] at hv170_4; replace hv170_4 := Option.some.inj (hv170_4.symm.trans hx170_4); injection hv170_4 with hva_ hvn_ hvc_; rw [hva_] at ge170_4; rw [hvc_] at ul170_4; have HL170_4 := Aside0.mk (show Kd.V (Kd.int .i32) 21 _ w.heap.size _ _ ((rd_T36 t166 0).f2.f2) from Kd.V_mk ul170_4 ge170_4); clear hva_ hvn_ hvc_ ge170_4 ul170_4; clear hcc170 hce170; have qi170 : (0 < t166.length) = True := eq_true (by omega); (try rw [show ((0 : Int)).toNat = 0 from rfl] at hx170_0); (try rw [show 0 * 5 = 0 from rfl] at hx170_0); (try rw [Addr.add_zero'] at hx170_0); (try rw [show ((0 : Int)).toNat = 0 from rfl] at hx170_1); (try rw [show 0 * 5 = 0 from rfl] at hx170_1); (try rw [Addr.add_zero'] at hx170_1); (try rw [show ((0 : Int)).toNat = 0 from rfl] at hx170_2); (try rw [show 0 * 5 = 0 from rfl] at hx170_2); (try rw [Addr.add_zero'] at hx170_2); (try rw [show ((0 : Int)).toNat = 0 from rfl] at hx170_3); (try rw [show 0 * 5 = 0 from rfl] at hx170_3); (try rw [Addr.add_zero'] at hx170_3); (try rw [show ((0 : Int)).toNat = 0 from rfl] at hx170_4); (try rw [show 0 * 5 = 0 from rfl] at hx170_4); (try rw [Addr.add_zero'] at hx170_4); have HR170_4 := Aside0.mk hi170_4; have HC170_4 := Aside0.mk hl170_4; clear hi170_4 hl170_4; replace p170 := eq_true p170; replace q170 := eq_true q170; have hcz35_0 : w33.cell? ⟨gb155, 0, none⟩ = some (.slice Ao29 t161.length co29) := (blk_cell BK155.out 0).trans rfl; have hfz35_0 := blk_frozen BK155.out 0) | (go_at_call 17; (with_reducible refine (G.arena_Free.calls _ _ t161 t171 _ ?side1 ?side2 A15.out).mono ?_); (case side1 => repeat (first | exact (Kd.N_reads' HO163.out).2.2 | (with_reducible refine Kd.C_alloc ?_ _) | (with_reducible refine Kd.C_drewN ?_ _) | (with_reducible refine Kd.C_drew ?_))); (case side2 => exact (Kd.N_reads' HO163.out).2.1); rintro e w36 ⟨rfl, hb⟩; have n0_ := Aside0.mk (Kd.N_below (by (with_reducible repeat (first | apply Kd.N_alloc | apply Kd.N_drewN | apply Kd.N_drew)); exact HO144.out) hb); have n1_ := Aside0.mk (Kd.R_below (by (with_reducible repeat (first | apply Kd.R_alloc | apply Kd.R_drewN | apply Kd.R_drew)); exact HO149.out) hb); have n2_ := Aside0.mk (Kd.N_below (by (with_reducible repeat (first | apply Kd.N_alloc | apply Kd.N_drewN | apply Kd.N_drew)); exact HO152.out) hb); have n3_ := Aside0.mk (Kd.R_below (by (with_reducible repeat (first | apply Kd.R_alloc | apply Kd.R_drewN | apply Kd.R_drew)); exact HO160.out) hb); have n4_ := Aside0.mk (Kd.N_below (by (with_reducible repeat (first | apply Kd.N_alloc | apply Kd.N_drewN | apply Kd.N_drew)); exact HO163.out) hb); have n5_ := Aside0.mk (Kd.N_below (by (with_reducible repeat (first | apply Kd.N_alloc | apply Kd.N_drewN | apply Kd.N_drew)); exact HO168.out) hb); have n6_ := Aside0.mk (Kd.V_below (by (with_reducible repeat (first | apply Kd.V_alloc | apply Kd.V_drewN | apply Kd.V_drew)); exact HL170_4.out) hb); have n7_ := Aside0.mk (blk_below (g := gb155) (o := .cells #[.slice Ao29 t161.length co29] 26 (0, 0)) (by (with_reducible repeat (first | refine blk_drewN ?_ _ | refine blk_drew ?_ | refine blk_alloc ?_ _)); exact BK155.out) hb); have n8_ := Aside0.mk (Kd.C_below (by repeat (first | (with_reducible exact HR170_4.out) | (with_reducible refine Kd.C_alloc ?_ _) | (with_reducible refine Kd.C_drewN ?_ _) | (with_reducible refine Kd.C_drew ?_) | exact HR170_4.out)) hb); have n9_ := Aside0.mk (below_step (by repeat (first | (with_reducible first | exact HB.out | apply below_alloc | apply pw_below_drewN | apply below_drew1 | refine below_set ?_ GE155.out) | exact HB.out)) hb); clear HO144; clear HO149; clear HO152; clear HO160; clear HO163; clear HO168; clear HL170_4; clear BK155; clear HR170_4; clear HB; have HO144 := n0_; have HO149 := n1_; have HO152 := n2_; have HO160 := n3_; have HO163 := n4_; have HO168 := n5_; have HL170_4 := n6_; have BK155 := n7_; have HR170_4 := n8_; have HB := n9_; clear n0_ n1_ n2_ n3_ n4_ n5_ n6_ n7_ n8_ n9_; (try clear hb); (try clear hb2); (try clear hk); (try clear hi)))
                  go_ret
                  exact ⟨by first | rfl | (simp [errW_none, errW_some] <;> rfl) | (simp [*, errW_none, errW_some] <;> rfl), by repeat (first | (with_reducible first | exact HB.out | apply below_alloc | apply pw_below_drewN | apply below_drew1 | refine below_set ?_ GE155.out) | exact HB.out)⟩
                · rw [if_neg c14] at H
                  exact absurd (Option.some.inj H) (by rw [hr_.out]; decide)
              · rw [if_neg c13] at H
                exact absurd H (by simp)
            · rw [if_neg c12] at H
              exact absurd (Option.some.inj H) (by rw [hr_.out]; decide)
          · rw [if_neg c11] at H
            exact absurd (Option.some.inj H) (by rw [hr_.out]; decide)
        · rw [if_neg c10] at H
          exact absurd (Option.some.inj H) (by rw [hr_.out]; decide)
      · rw [if_neg c9] at H
        exact absurd (Option.some.inj H) (by rw [hr_.out]; decide)
    · rw [if_neg c8] at H
      exact absurd (Option.some.inj H) (by rw [hr_.out]; decide)
  · rw [if_neg c7] at H
    exact absurd (Option.some.inj H) (by rw [hr_.out]; decide)

end Go.Proofs.Ytoblkjdiahoplaa.P
