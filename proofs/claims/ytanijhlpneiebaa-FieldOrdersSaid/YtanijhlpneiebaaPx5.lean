/- Written by a program for this claim. -/
import Derived.Test.YtanijhlpneiebaaPx0
import Derived.Test.YtanijhlpneiebaaPx1
import Derived.Test.YtanijhlpneiebaaPx3
import Derived.Test.YtanijhlpneiebaaG6
import Derived.Test.YtanijhlpneiebaaG9
namespace Go.Proofs.Ytanijhlpneiebaa.P
open Go.RowKit Go.Proofs.YtanijhlpneiebaaW.PrintWords Go.Proofs.YtanijhlpneiebaaW.PrintLast Go.Proofs.YtanijhlpneiebaaW.PrintMore
attribute [local go_sem] max2_int min2_int max_two min_two max_three min_three max_four min_four   -- for this text's walks alone
set_option linter.unusedVariables false
set_option linter.unusedSimpArgs false

/-! ### quiverlaw01_FieldOrders: function 16 -/
mutual
def quiverlaw01_FieldOrders.j0 : Nat → Int → Int → Int → Bool → Option (Bool)
  | 0, _, _, _, _ => none
  | k + 1, x0, x1, x2, x16 => if x16 = true then ((field_Put.f k ([] : List Int) x0 x1).bind fun t254 => (some ((t254.length : Int) == 0))) else ((field_Fits.f x0 x1).bind fun t257 => (if t257 = true then ((field_Fits.f x0 x2).bind fun t258 => (if t258 = true then ((field_Put.f k ([] : List Int) x0 x1).bind fun t259 => ((field_Put.f k ([] : List Int) x0 x2).bind fun t262 => ((G.bytes_Compare.f t259 t262).bind fun t265 => ((cmp_Compare_uint64.f x1 x2).bind fun t266 => (quiverlaw01_FieldOrders.j1 k x0 x1 x2 (t265 != t266)))))) else (quiverlaw01_FieldOrders.j1 k x0 x1 x2 false))) else (quiverlaw01_FieldOrders.j1 k x0 x1 x2 false)))
def quiverlaw01_FieldOrders.j1 : Nat → Int → Int → Int → Bool → Option (Bool)
  | 0, _, _, _, _ => none
  | k + 1, x0, x1, x2, x42 => if x42 = true then (some false) else ((field_FitsInt.f x0 (wrap64 (x1))).bind fun t267 => (if t267 = true then ((field_FitsInt.f x0 (wrap64 (x2))).bind fun t268 => (quiverlaw01_FieldOrders.j2 k x0 x1 x2 (!t268))) else (quiverlaw01_FieldOrders.j2 k x0 x1 x2 true)))
def quiverlaw01_FieldOrders.j2 : Nat → Int → Int → Int → Bool → Option (Bool)
  | 0, _, _, _, _ => none
  | k + 1, x0, x1, x2, x54 => if x54 = true then (some true) else ((field_Lay.f k ([] : List Int) x0 (wrap64 (x1))).bind fun t269 => ((field_Lay.f k ([] : List Int) x0 (wrap64 (x2))).bind fun t272 => (if 0 < (t269.length : Int) then (if 0 < (t272.length : Int) then ((G.bytes_Compare.f (t269.set (0 : Int).toNat (Go.bits .xor .u8 (rd t269 0) 128)) (t272.set (0 : Int).toNat (Go.bits .xor .u8 (rd t272 0) 128))).bind fun t279 => ((cmp_Compare_int64.f (wrap64 (x1)) (wrap64 (x2))).bind fun t280 => (some (t279 == t280)))) else (none)) else (none))))
end
def quiverlaw01_FieldOrders.f (k : Nat) (a0 : Int) (a1 : Int) (a2 : Int) : Option (Bool) := (G.wakes01.f).bind fun t253 => (if t253 = true then (if a0 < 1 then (quiverlaw01_FieldOrders.j0 k a0 a1 a2 true) else (quiverlaw01_FieldOrders.j0 k a0 a1 a2 (decide (a0 > 8)))) else (some false))
theorem quiverlaw01_FieldOrders.mono_l : ∀ k, (∀ y0 y1 y2 y3, LeO (quiverlaw01_FieldOrders.j0 k y0 y1 y2 y3) (quiverlaw01_FieldOrders.j0 (k + 1) y0 y1 y2 y3)) ∧ (∀ y0 y1 y2 y3, LeO (quiverlaw01_FieldOrders.j1 k y0 y1 y2 y3) (quiverlaw01_FieldOrders.j1 (k + 1) y0 y1 y2 y3)) ∧ (∀ y0 y1 y2 y3, LeO (quiverlaw01_FieldOrders.j2 k y0 y1 y2 y3) (quiverlaw01_FieldOrders.j2 (k + 1) y0 y1 y2 y3))
  | 0 => ⟨fun _ _ _ _ r h => by simp [quiverlaw01_FieldOrders.j0] at h, fun _ _ _ _ r h => by simp [quiverlaw01_FieldOrders.j1] at h, fun _ _ _ _ r h => by simp [quiverlaw01_FieldOrders.j2] at h⟩
  | k + 1 => by
    obtain ⟨ih0, ih1, ih2⟩ := quiverlaw01_FieldOrders.mono_l k
    refine ⟨?_, ?_, ?_⟩
    · intro y0 y1 y2 y3
      unfold quiverlaw01_FieldOrders.j0
      repeat' first
      | (with_reducible exact ih0 _ _ _ _)
      | (with_reducible exact ih1 _ _ _ _)
      | (with_reducible exact ih2 _ _ _ _)
      | (with_reducible exact field_Lay.mono _ _ _ _)
      | (with_reducible exact field_Put.mono _ _ _ _)
      | (with_reducible exact LeO.refl _)
      | (with_reducible exact LeO.none _)
      | (with_reducible refine LeO.ite ?_ ?_)
      | (with_reducible refine LeO.bind ?_ (fun _ => ?_))
      | exact ih0 _ _ _ _
      | exact ih1 _ _ _ _
      | exact ih2 _ _ _ _
      | exact field_Lay.mono _ _ _ _
      | exact field_Put.mono _ _ _ _
      | exact LeO.none _
      | refine LeO.ite ?_ ?_
      | refine LeO.bind ?_ (fun _ => ?_)
    · intro y0 y1 y2 y3
      unfold quiverlaw01_FieldOrders.j1
      repeat' first
      | (with_reducible exact ih0 _ _ _ _)
      | (with_reducible exact ih1 _ _ _ _)
      | (with_reducible exact ih2 _ _ _ _)
      | (with_reducible exact field_Lay.mono _ _ _ _)
      | (with_reducible exact field_Put.mono _ _ _ _)
      | (with_reducible exact LeO.refl _)
      | (with_reducible exact LeO.none _)
      | (with_reducible refine LeO.ite ?_ ?_)
      | (with_reducible refine LeO.bind ?_ (fun _ => ?_))
      | exact ih0 _ _ _ _
      | exact ih1 _ _ _ _
      | exact ih2 _ _ _ _
      | exact field_Lay.mono _ _ _ _
      | exact field_Put.mono _ _ _ _
      | exact LeO.none _
      | refine LeO.ite ?_ ?_
      | refine LeO.bind ?_ (fun _ => ?_)
    · intro y0 y1 y2 y3
      unfold quiverlaw01_FieldOrders.j2
      repeat' first
      | (with_reducible exact ih0 _ _ _ _)
      | (with_reducible exact ih1 _ _ _ _)
      | (with_reducible exact ih2 _ _ _ _)
      | (with_reducible exact field_Lay.mono _ _ _ _)
      | (with_reducible exact field_Put.mono _ _ _ _)
      | (with_reducible exact LeO.refl _)
      | (with_reducible exact LeO.none _)
      | (with_reducible refine LeO.ite ?_ ?_)
      | (with_reducible refine LeO.bind ?_ (fun _ => ?_))
      | exact ih0 _ _ _ _
      | exact ih1 _ _ _ _
      | exact ih2 _ _ _ _
      | exact field_Lay.mono _ _ _ _
      | exact field_Put.mono _ _ _ _
      | exact LeO.none _
      | refine LeO.ite ?_ ?_
      | refine LeO.bind ?_ (fun _ => ?_)
theorem quiverlaw01_FieldOrders.mono : ∀ a0 a1 a2 k, LeO (quiverlaw01_FieldOrders.f k a0 a1 a2) (quiverlaw01_FieldOrders.f (k + 1) a0 a1 a2) := by
  intro a0 a1 a2 k
  obtain ⟨ih0, ih1, ih2⟩ := quiverlaw01_FieldOrders.mono_l k
  unfold quiverlaw01_FieldOrders.f
  repeat' first
      | (with_reducible exact ih0 _ _ _ _)
      | (with_reducible exact ih1 _ _ _ _)
      | (with_reducible exact ih2 _ _ _ _)
      | (with_reducible exact field_Lay.mono _ _ _ _)
      | (with_reducible exact field_Put.mono _ _ _ _)
      | (with_reducible exact LeO.refl _)
      | (with_reducible exact LeO.none _)
      | (with_reducible refine LeO.ite ?_ ?_)
      | (with_reducible refine LeO.bind ?_ (fun _ => ?_))
      | exact ih0 _ _ _ _
      | exact ih1 _ _ _ _
      | exact ih2 _ _ _ _
      | exact field_Lay.mono _ _ _ _
      | exact field_Put.mono _ _ _ _
      | exact LeO.none _
      | refine LeO.ite ?_ ?_
      | refine LeO.bind ?_ (fun _ => ?_)
set_option maxHeartbeats 8000000 in
set_option maxRecDepth 100000 in
theorem quiverlaw01_FieldOrders.calls (k : Nat) (a0 : Int) (a1 : Int) (a2 : Int) (r : Bool) (w : World) (h : quiverlaw01_FieldOrders.f k a0 a1 a2 = some r) :
    Calls Try.prog 16 #[.int .i64 a0, .int .u64 a1, .int .u64 a2] w fun e w' => e = .returned (.bool r) ∧ Below w.heap.size w w' := by
  have HB := Aside0.mk (Below.refl w.heap.size w)
  have H : ((G.wakes01.f).bind fun t253 => (if t253 = true then (if a0 < 1 then (quiverlaw01_FieldOrders.j0 k a0 a1 a2 true) else (quiverlaw01_FieldOrders.j0 k a0 a1 a2 (decide (a0 > 8)))) else (some false))) = some r := h
  clear h
  replace H := Option.bind_eq_some_iff.mp H
  obtain ⟨t253, A40, H⟩ := H
  replace H : (if t253 = true then (if a0 < 1 then (quiverlaw01_FieldOrders.j0 k a0 a1 a2 true) else (quiverlaw01_FieldOrders.j0 k a0 a1 a2 (decide (a0 > 8)))) else (some false)) = some r := H
  have A4 := Aside0.mk A40
  clear A40
  by_cases c5 : t253 = true
  · subst c5
    have H1 : (if a0 < 1 then (quiverlaw01_FieldOrders.j0 k a0 a1 a2 true) else (quiverlaw01_FieldOrders.j0 k a0 a1 a2 (decide (a0 > 8)))) = some r := by rw [if_pos rfl] at H; exact H
    clear H
    have H := H1
    clear H1
    have HC6 := Aside0.mk H
    clear H
    go_enter Try.func16, Try.ntmps16
    go_upto_region 3 with (first | ((with_reducible refine gate_callee (f := 17) rfl ?_); refine goesL_ (some 9) rfl rfl Try.func17 (by kernel_rfl) rfl #[] rfl (by (try simp only [List.map_toArray, List.map_cons, List.map_nil]); first | done | rfl | (simp only [List.length_drop, List.length_take]; rfl)) ?_; (with_reducible refine (G.wakes01.calls  true _ A4.out).mono ?_); rintro e w7 ⟨rfl, hb⟩; refine ⟨_, rfl, ?_⟩; have n0_ := Aside0.mk (below_step (by repeat (first | (with_reducible first | exact HB.out | apply below_alloc | apply pw_below_drewN | apply below_drew1) | exact HB.out)) hb); clear HB; have HB := n0_; clear n0_; (try clear hb); (try clear hb2); (try clear hk); (try clear hi)))
    (try simp only [Act.put, List.setIfInBounds_toArray, List.set_cons_zero, List.set_cons_succ])
    go_cut [16] (fun v16 wc => ∃ (kq : Nat) (x16_5 : Bool), v16 = .bool x16_5 ∧ Aside0 (quiverlaw01_FieldOrders.j0 kq a0 a1 a2 x16_5 = some r) ∧ Aside0 (kq ≤ k) ∧ Aside0 (Below w.heap.size w wc))
    case first =>
      have H := HC6.out
      clear HC6
      by_cases c8 : a0 < 1
      · rw [if_pos c8] at H
        have c8b0 : decide (a0 < 1) = true := decide_eq_true c8
        clear c8
        (first | rw [c8b0] | (simp only [i64_w, i32_w]; rw [c8b0]) | skip)
        have H' := Aside0.mk H
        clear H
        go_wp2
        go_meet
        case rel => exact ⟨_, (true), (by first | rfl | (simp; done) | (simp [*]; done)), H', ⟨by first | omega | exact Nat.le_refl _⟩, ⟨by repeat (first | (with_reducible first | exact HB.out | apply below_alloc | apply pw_below_drewN | apply below_drew1) | exact HB.out)⟩⟩
      · rw [if_neg c8] at H
        have c8b0 : decide (a0 < 1) = false := decide_eq_false c8
        clear c8
        (first | rw [c8b0] | (simp only [i64_w, i32_w]; rw [c8b0]) | skip)
        have H' := Aside0.mk H
        clear H
        go_wp2
        go_meet
        case rel => exact ⟨_, (decide (a0 > 8)), (by first | rfl | (simp; done) | (simp [*]; done)), H', ⟨by first | omega | exact Nat.le_refl _⟩, ⟨by repeat (first | (with_reducible first | exact HB.out | apply below_alloc | apply pw_below_drewN | apply below_drew1) | exact HB.out)⟩⟩
    case rest =>
      clear HC6
      try clear c1
      try clear p2
      try clear c5
      try clear c8
      try clear c8b0
      obtain ⟨kq, x16_5, rfl, HA, HJ5, HB⟩ := hcut
      cases kq with
      | zero => exact absurd HA.out (by simp [quiverlaw01_FieldOrders.j0])
      | succ kj5 =>
        have H := HA.out
        clear HA
        simp only [quiverlaw01_FieldOrders.j0] at H
        by_cases c9 : x16_5 = true
        · subst c9
          have H1 : ((field_Put.f kj5 ([] : List Int) a0 a1).bind fun t254 => (some ((t254.length : Int) == 0))) = some r := by rw [if_pos rfl] at H; exact H
          clear H
          have H := H1
          clear H1
          replace H := Option.bind_eq_some_iff.mp H
          obtain ⟨t254, A100, H⟩ := H
          replace H : (some ((t254.length : Int) == 0)) = some r := H
          have A10 := Aside0.mk A100
          clear A100
          obtain rfl := Option.some.inj H
          go_wp2_with (first | ((with_reducible refine gate_callee (f := 18) rfl ?_); refine goesL_ (some 19) rfl rfl Try.func18 (by kernel_rfl) rfl #[.slice none 0 0, .int .i64 a0, .int .u64 a1] rfl (by (try simp only [List.map_toArray, List.map_cons, List.map_nil]); first | done | rfl | (simp only [List.length_drop, List.length_take]; rfl)) ?_; (refine (field_Put.calls kj5 _ _ ([] : List Int) a0 a1 t254 _ ?side1 ?side2 A10.out).mono ?_); (case side1 => exact Kd.C_nil _ _); (case side2 => exact Nat.le_refl _); rintro e w11 ⟨v255, rfl, ho0, hb⟩; refine ⟨_, rfl, ?_⟩; have n0_ := Aside0.mk (Kd.R_lower ho0 (below_size (by repeat (first | (with_reducible first | exact HB.out | apply below_alloc | apply pw_below_drewN | apply below_drew1) | exact HB.out)))); have n1_ := Aside0.mk (below_step (by repeat (first | (with_reducible first | exact HB.out | apply below_alloc | apply pw_below_drewN | apply below_drew1) | exact HB.out)) hb); clear HB; have HO256 := n0_; have HB := n1_; clear n0_ n1_; (try clear hb); (try clear hb2); (try clear hk); (try clear hi); (try clear ho0); obtain ⟨Ao12, co12, eo12⟩ := Kd.R_slice HO256.out; subst eo12))
          go_ret
          exact ⟨by first | rfl | (simp [errW_none, errW_some] <;> rfl) | (simp [*, errW_none, errW_some] <;> rfl), by repeat (first | (with_reducible first | exact HB.out | apply below_alloc | apply pw_below_drewN | apply below_drew1) | exact HB.out)⟩
        · replace c9 := Bool.eq_false_iff.mpr c9
          subst c9
          have H1 : ((field_Fits.f a0 a1).bind fun t257 => (if t257 = true then ((field_Fits.f a0 a2).bind fun t258 => (if t258 = true then ((field_Put.f kj5 ([] : List Int) a0 a1).bind fun t259 => ((field_Put.f kj5 ([] : List Int) a0 a2).bind fun t262 => ((G.bytes_Compare.f t259 t262).bind fun t265 => ((cmp_Compare_uint64.f a1 a2).bind fun t266 => (quiverlaw01_FieldOrders.j1 kj5 a0 a1 a2 (t265 != t266)))))) else (quiverlaw01_FieldOrders.j1 kj5 a0 a1 a2 false))) else (quiverlaw01_FieldOrders.j1 kj5 a0 a1 a2 false))) = some r := by rw [if_neg (show ¬ (false = true) by decide)] at H; exact H
          clear H
          have H := H1
          clear H1
          have HC13 := Aside0.mk H
          clear H
          go_upto_region 5 with (fail)
          go_cut [42] (fun v42 wc => ∃ (kq : Nat) (x42_12 : Bool), v42 = .bool x42_12 ∧ Aside0 (quiverlaw01_FieldOrders.j1 kq a0 a1 a2 x42_12 = some r) ∧ Aside0 (kq ≤ kj5) ∧ Aside0 (Below w.heap.size w wc))
          case first =>
            have H := HC13.out
            clear HC13
            replace H := Option.bind_eq_some_iff.mp H
            obtain ⟨t257, A140, H⟩ := H
            replace H : (if t257 = true then ((field_Fits.f a0 a2).bind fun t258 => (if t258 = true then ((field_Put.f kj5 ([] : List Int) a0 a1).bind fun t259 => ((field_Put.f kj5 ([] : List Int) a0 a2).bind fun t262 => ((G.bytes_Compare.f t259 t262).bind fun t265 => ((cmp_Compare_uint64.f a1 a2).bind fun t266 => (quiverlaw01_FieldOrders.j1 kj5 a0 a1 a2 (t265 != t266)))))) else (quiverlaw01_FieldOrders.j1 kj5 a0 a1 a2 false))) else (quiverlaw01_FieldOrders.j1 kj5 a0 a1 a2 false)) = some r := H
            have A14 := Aside0.mk A140
            clear A140
            by_cases c15 : t257 = true
            · subst c15
              have H1 : ((field_Fits.f a0 a2).bind fun t258 => (if t258 = true then ((field_Put.f kj5 ([] : List Int) a0 a1).bind fun t259 => ((field_Put.f kj5 ([] : List Int) a0 a2).bind fun t262 => ((G.bytes_Compare.f t259 t262).bind fun t265 => ((cmp_Compare_uint64.f a1 a2).bind fun t266 => (quiverlaw01_FieldOrders.j1 kj5 a0 a1 a2 (t265 != t266)))))) else (quiverlaw01_FieldOrders.j1 kj5 a0 a1 a2 false))) = some r := by rw [if_pos rfl] at H; exact H
              clear H
              have H := H1
              clear H1
              replace H := Option.bind_eq_some_iff.mp H
              obtain ⟨t258, A160, H⟩ := H
              replace H : (if t258 = true then ((field_Put.f kj5 ([] : List Int) a0 a1).bind fun t259 => ((field_Put.f kj5 ([] : List Int) a0 a2).bind fun t262 => ((G.bytes_Compare.f t259 t262).bind fun t265 => ((cmp_Compare_uint64.f a1 a2).bind fun t266 => (quiverlaw01_FieldOrders.j1 kj5 a0 a1 a2 (t265 != t266)))))) else (quiverlaw01_FieldOrders.j1 kj5 a0 a1 a2 false)) = some r := H
              have A16 := Aside0.mk A160
              clear A160
              by_cases c17 : t258 = true
              · subst c17
                have H1 : ((field_Put.f kj5 ([] : List Int) a0 a1).bind fun t259 => ((field_Put.f kj5 ([] : List Int) a0 a2).bind fun t262 => ((G.bytes_Compare.f t259 t262).bind fun t265 => ((cmp_Compare_uint64.f a1 a2).bind fun t266 => (quiverlaw01_FieldOrders.j1 kj5 a0 a1 a2 (t265 != t266)))))) = some r := by rw [if_pos rfl] at H; exact H
                clear H
                have H := H1
                clear H1
                replace H := Option.bind_eq_some_iff.mp H
                obtain ⟨t259, A180, H⟩ := H
                replace H : ((field_Put.f kj5 ([] : List Int) a0 a2).bind fun t262 => ((G.bytes_Compare.f t259 t262).bind fun t265 => ((cmp_Compare_uint64.f a1 a2).bind fun t266 => (quiverlaw01_FieldOrders.j1 kj5 a0 a1 a2 (t265 != t266))))) = some r := H
                have A18 := Aside0.mk A180
                clear A180
                replace H := Option.bind_eq_some_iff.mp H
                obtain ⟨t262, A190, H⟩ := H
                replace H : ((G.bytes_Compare.f t259 t262).bind fun t265 => ((cmp_Compare_uint64.f a1 a2).bind fun t266 => (quiverlaw01_FieldOrders.j1 kj5 a0 a1 a2 (t265 != t266)))) = some r := H
                have A19 := Aside0.mk A190
                clear A190
                replace H := Option.bind_eq_some_iff.mp H
                obtain ⟨t265, A200, H⟩ := H
                replace H : ((cmp_Compare_uint64.f a1 a2).bind fun t266 => (quiverlaw01_FieldOrders.j1 kj5 a0 a1 a2 (t265 != t266))) = some r := H
                have A20 := Aside0.mk A200
                clear A200
                replace H := Option.bind_eq_some_iff.mp H
                obtain ⟨t266, A210, H⟩ := H
                replace H : (quiverlaw01_FieldOrders.j1 kj5 a0 a1 a2 (t265 != t266)) = some r := H
                have A21 := Aside0.mk A210
                clear A210
                have H' := Aside0.mk H
                clear H
                go_wp2_with (first | ((with_reducible refine gate_callee (f := 23) rfl ?_); refine goesL_ (some 24) rfl rfl Try.func23 (by kernel_rfl) rfl #[.int .i64 a0, .int .u64 a1] rfl (by (try simp only [List.map_toArray, List.map_cons, List.map_nil]); first | done | rfl | (simp only [List.length_drop, List.length_take]; rfl)) ?_; (with_reducible refine (field_Fits.calls a0 a1 true _ A14.out).mono ?_); rintro e w' ⟨rfl, ⟨nd, rfl⟩⟩; refine ⟨_, rfl, ?_⟩) | (go_at_call 23; (with_reducible refine (field_Fits.calls a0 a2 true _ A16.out).mono ?_); rintro e w' ⟨rfl, ⟨nd, rfl⟩⟩) | (go_at_call 18; refine calls_of_args (args' := #[.slice none 0 0, .int .i64 a0, .int .u64 a1]) (by first | done | rfl) ?_; (refine (field_Put.calls kj5 _ _ ([] : List Int) a0 a1 t259 _ ?side1 ?side2 A18.out).mono ?_); (case side1 => exact Kd.C_nil _ _); (case side2 => exact Nat.le_refl _); rintro e w22 ⟨v260, rfl, ho0, hb⟩; have n0_ := Aside0.mk (Kd.R_lower ho0 (below_size (by repeat (first | (with_reducible first | exact HB.out | apply below_alloc | apply pw_below_drewN | apply below_drew1) | exact HB.out)))); have n1_ := Aside0.mk (below_step (by repeat (first | (with_reducible first | exact HB.out | apply below_alloc | apply pw_below_drewN | apply below_drew1) | exact HB.out)) hb); clear HB; have HO261 := n0_; have HB := n1_; clear n0_ n1_; (try clear hb); (try clear hb2); (try clear hk); (try clear hi); (try clear ho0)) | (go_at_call 18; refine calls_of_args (args' := #[.slice none 0 0, .int .i64 a0, .int .u64 a2]) (by first | done | rfl) ?_; (refine (field_Put.calls kj5 _ _ ([] : List Int) a0 a2 t262 _ ?side1 ?side2 A19.out).mono ?_); (case side1 => exact Kd.C_nil _ _); (case side2 => exact Nat.le_refl _); rintro e w23 ⟨v263, rfl, ho0, hb⟩; have n0_ := Aside0.mk (Kd.R_elder' (by (with_reducible repeat (first | apply Kd.R_alloc | apply Kd.R_drewN | apply Kd.R_drew)); exact HO261.out) (Kd.R_base ho0) hb); have n1_ := Aside0.mk (Kd.R_lower (Kd.R_new' ho0 (Kd.R_lt (by (with_reducible repeat (first | apply Kd.R_alloc | apply Kd.R_drewN | apply Kd.R_drew)); exact HO261.out))) (below_size (by repeat (first | (with_reducible first | exact HB.out | apply below_alloc | apply pw_below_drewN | apply below_drew1) | exact HB.out)))); have n2_ := Aside0.mk (below_step (by repeat (first | (with_reducible first | exact HB.out | apply below_alloc | apply pw_below_drewN | apply below_drew1) | exact HB.out)) hb); clear HO261; clear HB; have HO261 := n0_; have HO264 := n1_; have HB := n2_; clear n0_ n1_ n2_; (try clear hb); (try clear hb2); (try clear hk); (try clear hi); (try clear ho0); obtain ⟨Ao24, co24, eo24⟩ := Kd.R_slice HO261.out; subst eo24; obtain ⟨Ao25, co25, eo25⟩ := Kd.R_slice HO264.out; subst eo25) | (go_at_call 52; (with_reducible refine (G.bytes_Compare.calls _ _ t259 _ _ t262 t265 _ ?side1 ?side2 ?side3 ?side4 A20.out).mono ?_); (case side1 => repeat (first | exact (Kd.R_reads' HO261.out).2.2 | (with_reducible refine Kd.C_alloc ?_ _) | (with_reducible refine Kd.C_drewN ?_ _) | (with_reducible refine Kd.C_drew ?_))); (case side2 => exact (Kd.R_reads' HO261.out).2.1); (case side3 => repeat (first | exact (Kd.R_reads' HO264.out).2.2 | (with_reducible refine Kd.C_alloc ?_ _) | (with_reducible refine Kd.C_drewN ?_ _) | (with_reducible refine Kd.C_drew ?_))); (case side4 => exact (Kd.R_reads' HO264.out).2.1); rintro e w' ⟨rfl, ⟨nd, rfl⟩⟩) | (go_at_call 53; (with_reducible refine (cmp_Compare_uint64.calls a1 a2 t266 _ A21.out).mono ?_); rintro e w' ⟨rfl, ⟨nd, rfl⟩⟩))
                go_meet
                case rel => exact ⟨_, ((t265 != t266)), (by first | rfl | (simp; done) | (simp [*]; done)), H', ⟨by have := HJ5.out; first | omega | exact Nat.le_refl _⟩, ⟨by repeat (first | (with_reducible first | exact HB.out | apply below_alloc | apply pw_below_drewN | apply below_drew1) | exact HB.out)⟩⟩
              · replace c17 := Bool.eq_false_iff.mpr c17
                subst c17
                have H1 : (quiverlaw01_FieldOrders.j1 kj5 a0 a1 a2 false) = some r := by rw [if_neg (show ¬ (false = true) by decide)] at H; exact H
                clear H
                have H := H1
                clear H1
                have H' := Aside0.mk H
                clear H
                go_wp2_with (first | ((with_reducible refine gate_callee (f := 23) rfl ?_); refine goesL_ (some 24) rfl rfl Try.func23 (by kernel_rfl) rfl #[.int .i64 a0, .int .u64 a1] rfl (by (try simp only [List.map_toArray, List.map_cons, List.map_nil]); first | done | rfl | (simp only [List.length_drop, List.length_take]; rfl)) ?_; (with_reducible refine (field_Fits.calls a0 a1 true _ A14.out).mono ?_); rintro e w' ⟨rfl, ⟨nd, rfl⟩⟩; refine ⟨_, rfl, ?_⟩) | (go_at_call 23; (with_reducible refine (field_Fits.calls a0 a2 false _ A16.out).mono ?_); rintro e w' ⟨rfl, ⟨nd, rfl⟩⟩))
                go_meet
                case rel => exact ⟨_, (false), (by first | rfl | (simp; done) | (simp [*]; done)), H', ⟨by have := HJ5.out; first | omega | exact Nat.le_refl _⟩, ⟨by repeat (first | (with_reducible first | exact HB.out | apply below_alloc | apply pw_below_drewN | apply below_drew1) | exact HB.out)⟩⟩
            · replace c15 := Bool.eq_false_iff.mpr c15
              subst c15
              have H1 : (quiverlaw01_FieldOrders.j1 kj5 a0 a1 a2 false) = some r := by rw [if_neg (show ¬ (false = true) by decide)] at H; exact H
              clear H
              have H := H1
              clear H1
              have H' := Aside0.mk H
              clear H
              go_wp2_with (first | ((with_reducible refine gate_callee (f := 23) rfl ?_); refine goesL_ (some 24) rfl rfl Try.func23 (by kernel_rfl) rfl #[.int .i64 a0, .int .u64 a1] rfl (by (try simp only [List.map_toArray, List.map_cons, List.map_nil]); first | done | rfl | (simp only [List.length_drop, List.length_take]; rfl)) ?_; (with_reducible refine (field_Fits.calls a0 a1 false _ A14.out).mono ?_); rintro e w' ⟨rfl, ⟨nd, rfl⟩⟩; refine ⟨_, rfl, ?_⟩))
              go_meet
              case rel => exact ⟨_, (false), (by first | rfl | (simp; done) | (simp [*]; done)), H', ⟨by have := HJ5.out; first | omega | exact Nat.le_refl _⟩, ⟨by repeat (first | (with_reducible first | exact HB.out | apply below_alloc | apply pw_below_drewN | apply below_drew1) | exact HB.out)⟩⟩
          case rest =>
            clear HC13
            try clear c1
            try clear c2
            try clear p2
            try clear c5
            try clear c8
            try clear c8b0
            try clear c9
            try clear c15
            try clear c16
            try clear c17
            try clear c18
            try clear c23
            try clear p2
            obtain ⟨kq, x42_12, rfl, HA, HJ12, HB⟩ := hcut
            cases kq with
            | zero => exact absurd HA.out (by simp [quiverlaw01_FieldOrders.j1])
            | succ kj12 =>
              have H := HA.out
              clear HA
              simp only [quiverlaw01_FieldOrders.j1] at H
              by_cases c26 : x42_12 = true
              · subst c26
                have H1 : (some false) = some r := by rw [if_pos rfl] at H; exact H
                clear H
                have H := H1
                clear H1
                obtain rfl := Option.some.inj H
                go_wp2
                go_ret
                exact ⟨by first | rfl | (simp [errW_none, errW_some] <;> rfl) | (simp [*, errW_none, errW_some] <;> rfl), by repeat (first | (with_reducible first | exact HB.out | apply below_alloc | apply pw_below_drewN | apply below_drew1) | exact HB.out)⟩
              · replace c26 := Bool.eq_false_iff.mpr c26
                subst c26
                have H1 : ((field_FitsInt.f a0 (wrap64 (a1))).bind fun t267 => (if t267 = true then ((field_FitsInt.f a0 (wrap64 (a2))).bind fun t268 => (quiverlaw01_FieldOrders.j2 kj12 a0 a1 a2 (!t268))) else (quiverlaw01_FieldOrders.j2 kj12 a0 a1 a2 true))) = some r := by rw [if_neg (show ¬ (false = true) by decide)] at H; exact H
                clear H
                have H := H1
                clear H1
                have HC27 := Aside0.mk H
                clear H
                go_upto_region 7 with (fail)
                go_cut [54] (fun v54 wc => ∃ (kq : Nat) (x54_26 : Bool), v54 = .bool x54_26 ∧ Aside0 (quiverlaw01_FieldOrders.j2 kq a0 a1 a2 x54_26 = some r) ∧ Aside0 (kq ≤ kj12) ∧ Aside0 (Below w.heap.size w wc))
                case first =>
                  have H := HC27.out
                  clear HC27
                  replace H := Option.bind_eq_some_iff.mp H
                  obtain ⟨t267, A280, H⟩ := H
                  replace H : (if t267 = true then ((field_FitsInt.f a0 (wrap64 (a2))).bind fun t268 => (quiverlaw01_FieldOrders.j2 kj12 a0 a1 a2 (!t268))) else (quiverlaw01_FieldOrders.j2 kj12 a0 a1 a2 true)) = some r := H
                  have A28 := Aside0.mk A280
                  clear A280
                  by_cases c29 : t267 = true
                  · subst c29
                    have H1 : ((field_FitsInt.f a0 (wrap64 (a2))).bind fun t268 => (quiverlaw01_FieldOrders.j2 kj12 a0 a1 a2 (!t268))) = some r := by rw [if_pos rfl] at H; exact H
                    clear H
                    have H := H1
                    clear H1
                    replace H := Option.bind_eq_some_iff.mp H
                    obtain ⟨t268, A300, H⟩ := H
                    replace H : (quiverlaw01_FieldOrders.j2 kj12 a0 a1 a2 (!t268)) = some r := H
                    have A30 := Aside0.mk A300
                    clear A300
                    have H' := Aside0.mk H
                    clear H
                    go_wp2_with (first | ((with_reducible refine gate_callee (f := 25) rfl ?_); refine goesL_ (some 46) rfl rfl Try.func25 (by kernel_rfl) rfl #[.int .i64 a0, .int .i64 (wrap64 (a1))] rfl (by (try simp only [List.map_toArray, List.map_cons, List.map_nil]); first | done | rfl | (simp only [List.length_drop, List.length_take]; rfl)) ?_; (with_reducible refine (field_FitsInt.calls a0 (wrap64 (a1)) true _ A28.out).mono ?_); rintro e w' ⟨rfl, ⟨nd, rfl⟩⟩; refine ⟨_, rfl, ?_⟩) | (go_at_call 25; (with_reducible refine (field_FitsInt.calls a0 (wrap64 (a2)) t268 _ A30.out).mono ?_); rintro e w' ⟨rfl, ⟨nd, rfl⟩⟩))
                    go_meet
                    case rel => exact ⟨_, (!t268), (by first | rfl | (simp; done) | (simp [*]; done)), H', ⟨by have := HJ5.out; have := HJ12.out; first | omega | exact Nat.le_refl _⟩, ⟨by repeat (first | (with_reducible first | exact HB.out | apply below_alloc | apply pw_below_drewN | apply below_drew1) | exact HB.out)⟩⟩
                  · replace c29 := Bool.eq_false_iff.mpr c29
                    subst c29
                    have H1 : (quiverlaw01_FieldOrders.j2 kj12 a0 a1 a2 true) = some r := by rw [if_neg (show ¬ (false = true) by decide)] at H; exact H
                    clear H
                    have H := H1
                    clear H1
                    have H' := Aside0.mk H
                    clear H
                    go_wp2_with (first | ((with_reducible refine gate_callee (f := 25) rfl ?_); refine goesL_ (some 46) rfl rfl Try.func25 (by kernel_rfl) rfl #[.int .i64 a0, .int .i64 (wrap64 (a1))] rfl (by (try simp only [List.map_toArray, List.map_cons, List.map_nil]); first | done | rfl | (simp only [List.length_drop, List.length_take]; rfl)) ?_; (with_reducible refine (field_FitsInt.calls a0 (wrap64 (a1)) false _ A28.out).mono ?_); rintro e w' ⟨rfl, ⟨nd, rfl⟩⟩; refine ⟨_, rfl, ?_⟩))
                    go_meet
                    case rel => exact ⟨_, (true), (by first | rfl | (simp; done) | (simp [*]; done)), H', ⟨by have := HJ5.out; have := HJ12.out; first | omega | exact Nat.le_refl _⟩, ⟨by repeat (first | (with_reducible first | exact HB.out | apply below_alloc | apply pw_below_drewN | apply below_drew1) | exact HB.out)⟩⟩
                case rest =>
                  clear HC27
                  try clear c1
                  try clear c2
                  try clear p2
                  try clear c5
                  try clear p6
                  try clear c8
                  try clear c8b0
                  try clear c9
                  try clear c15
                  try clear c16
                  try clear c17
                  try clear c18
                  try clear c23
                  try clear c25
                  try clear c26
                  try clear c29
                  try clear p2
                  obtain ⟨kq, x54_26, rfl, HA, HJ26, HB⟩ := hcut
                  cases kq with
                  | zero => exact absurd HA.out (by simp [quiverlaw01_FieldOrders.j2])
                  | succ kj26 =>
                    have H := HA.out
                    clear HA
                    simp only [quiverlaw01_FieldOrders.j2] at H
                    by_cases c31 : x54_26 = true
                    · subst c31
                      have H1 : (some true) = some r := by rw [if_pos rfl] at H; exact H
                      clear H
                      have H := H1
                      clear H1
                      obtain rfl := Option.some.inj H
                      go_wp2
                      go_ret
                      exact ⟨by first | rfl | (simp [errW_none, errW_some] <;> rfl) | (simp [*, errW_none, errW_some] <;> rfl), by repeat (first | (with_reducible first | exact HB.out | apply below_alloc | apply pw_below_drewN | apply below_drew1) | exact HB.out)⟩
                    · replace c31 := Bool.eq_false_iff.mpr c31
                      subst c31
                      have H1 : ((field_Lay.f kj26 ([] : List Int) a0 (wrap64 (a1))).bind fun t269 => ((field_Lay.f kj26 ([] : List Int) a0 (wrap64 (a2))).bind fun t272 => (if 0 < (t269.length : Int) then (if 0 < (t272.length : Int) then ((G.bytes_Compare.f (t269.set (0 : Int).toNat (Go.bits .xor .u8 (rd t269 0) 128)) (t272.set (0 : Int).toNat (Go.bits .xor .u8 (rd t272 0) 128))).bind fun t279 => ((cmp_Compare_int64.f (wrap64 (a1)) (wrap64 (a2))).bind fun t280 => (some (t279 == t280)))) else (none)) else (none)))) = some r := by rw [if_neg (show ¬ (false = true) by decide)] at H; exact H
                      clear H
                      have H := H1
                      clear H1
                      replace H := Option.bind_eq_some_iff.mp H
                      obtain ⟨t269, A320, H⟩ := H
                      replace H : ((field_Lay.f kj26 ([] : List Int) a0 (wrap64 (a2))).bind fun t272 => (if 0 < (t269.length : Int) then (if 0 < (t272.length : Int) then ((G.bytes_Compare.f (t269.set (0 : Int).toNat (Go.bits .xor .u8 (rd t269 0) 128)) (t272.set (0 : Int).toNat (Go.bits .xor .u8 (rd t272 0) 128))).bind fun t279 => ((cmp_Compare_int64.f (wrap64 (a1)) (wrap64 (a2))).bind fun t280 => (some (t279 == t280)))) else (none)) else (none))) = some r := H
                      have A32 := Aside0.mk A320
                      clear A320
                      replace H := Option.bind_eq_some_iff.mp H
                      obtain ⟨t272, A330, H⟩ := H
                      replace H : (if 0 < (t269.length : Int) then (if 0 < (t272.length : Int) then ((G.bytes_Compare.f (t269.set (0 : Int).toNat (Go.bits .xor .u8 (rd t269 0) 128)) (t272.set (0 : Int).toNat (Go.bits .xor .u8 (rd t272 0) 128))).bind fun t279 => ((cmp_Compare_int64.f (wrap64 (a1)) (wrap64 (a2))).bind fun t280 => (some (t279 == t280)))) else (none)) else (none)) = some r := H
                      have A33 := Aside0.mk A330
                      clear A330
                      by_cases c34 : 0 < (t269.length : Int)
                      · rw [if_pos c34] at H
                        have c34b0 : decide (0 < (t269.length : Int)) = true := decide_eq_true c34
                        have c34b1 : decide (0 < t269.length) = true := decide_eq_true (by omega)
                        clear c34
                        obtain ⟨y276, hy276⟩ : ∃ y_ : List Int, y_ = (t269.set (0 : Int).toNat (Go.bits .xor .u8 (rd t269 0) 128)) := ⟨_, rfl⟩
                        replace H : (if 0 < (t272.length : Int) then ((G.bytes_Compare.f y276 (t272.set (0 : Int).toNat (Go.bits .xor .u8 (rd t272 0) 128))).bind fun t279 => ((cmp_Compare_int64.f (wrap64 (a1)) (wrap64 (a2))).bind fun t280 => (some (t279 == t280)))) else (none)) = some r := by first | (rw [hy276]; with_reducible exact H) | (have H2_ := (Option.bind_some _ _).symm.trans H; rw [hy276]; with_reducible exact H2_) | (have H2_ := (Option.bind_some _ _).symm.trans H; with_reducible exact H2_) | with_reducible exact H | (rw [hy276]; exact H) | exact H
                        have Ny276 := Aside0.mk hy276
                        clear hy276
                        by_cases c36 : 0 < (t272.length : Int)
                        · rw [if_pos c36] at H
                          have c36b0 : decide (0 < (t272.length : Int)) = true := decide_eq_true c36
                          have c36b1 : decide (0 < t272.length) = true := decide_eq_true (by omega)
                          clear c36
                          obtain ⟨y278, hy278⟩ : ∃ y_ : List Int, y_ = (t272.set (0 : Int).toNat (Go.bits .xor .u8 (rd t272 0) 128)) := ⟨_, rfl⟩
                          replace H : ((G.bytes_Compare.f y276 y278).bind fun t279 => ((cmp_Compare_int64.f (wrap64 (a1)) (wrap64 (a2))).bind fun t280 => (some (t279 == t280)))) = some r := by first | (rw [hy278]; with_reducible exact H) | (have H2_ := (Option.bind_some _ _).symm.trans H; rw [hy278]; with_reducible exact H2_) | (have H2_ := (Option.bind_some _ _).symm.trans H; with_reducible exact H2_) | with_reducible exact H | (rw [hy278]; exact H) | exact H
                          have Ny278 := Aside0.mk hy278
                          clear hy278
                          replace H := Option.bind_eq_some_iff.mp H
                          obtain ⟨t279, A380, H⟩ := H
                          replace H : ((cmp_Compare_int64.f (wrap64 (a1)) (wrap64 (a2))).bind fun t280 => (some (t279 == t280))) = some r := H
                          have A38 := Aside0.mk A380
                          clear A380
                          replace H := Option.bind_eq_some_iff.mp H
                          obtain ⟨t280, A390, H⟩ := H
                          replace H : (some (t279 == t280)) = some r := H
                          have A39 := Aside0.mk A390
                          clear A390
                          obtain rfl := Option.some.inj H
                          go_wp2_with (first | ((with_reducible refine gate_callee (f := 19) rfl ?_); refine goesL_ (some 58) rfl rfl Try.func19 (by kernel_rfl) rfl #[.slice none 0 0, .int .i64 a0, .int .i64 (wrap64 (a1))] rfl (by (try simp only [List.map_toArray, List.map_cons, List.map_nil]); first | done | rfl | (simp only [List.length_drop, List.length_take]; rfl)) ?_; (refine (field_Lay.calls kj26 _ _ ([] : List Int) a0 (wrap64 (a1)) t269 _ ?side1 ?side2 A32.out).mono ?_); (case side1 => exact Kd.C_nil _ _); (case side2 => exact Nat.le_refl _); rintro e w40 ⟨v270, rfl, ho0, hb⟩; refine ⟨_, rfl, ?_⟩; have n0_ := Aside0.mk (Kd.R_lower ho0 (below_size (by repeat (first | (with_reducible first | exact HB.out | apply below_alloc | apply pw_below_drewN | apply below_drew1) | exact HB.out)))); have n1_ := Aside0.mk (below_step (by repeat (first | (with_reducible first | exact HB.out | apply below_alloc | apply pw_below_drewN | apply below_drew1) | exact HB.out)) hb); clear HB; have HO271 := n0_; have HB := n1_; clear n0_ n1_; (try clear hb); (try clear hb2); (try clear hk); (try clear hi); (try clear ho0)) | ((with_reducible refine gate_callee (f := 19) rfl ?_); refine goesL_ (some 62) rfl rfl Try.func19 (by kernel_rfl) rfl #[.slice none 0 0, .int .i64 a0, .int .i64 (wrap64 (a2))] rfl (by (try simp only [List.map_toArray, List.map_cons, List.map_nil]); first | done | rfl | (simp only [List.length_drop, List.length_take]; rfl)) ?_; (refine (field_Lay.calls kj26 _ _ ([] : List Int) a0 (wrap64 (a2)) t272 _ ?side1 ?side2 A33.out).mono ?_); (case side1 => exact Kd.C_nil _ _); (case side2 => exact Nat.le_refl _); rintro e w41 ⟨v273, rfl, ho0, hb⟩; refine ⟨_, rfl, ?_⟩; have n0_ := Aside0.mk (Kd.R_elder' (by (with_reducible repeat (first | apply Kd.R_alloc | apply Kd.R_drewN | apply Kd.R_drew)); exact HO271.out) (Kd.R_base ho0) hb); have n1_ := Aside0.mk (Kd.R_lower (Kd.R_new' ho0 (Kd.R_lt (by (with_reducible repeat (first | apply Kd.R_alloc | apply Kd.R_drewN | apply Kd.R_drew)); exact HO271.out))) (below_size (by repeat (first | (with_reducible first | exact HB.out | apply below_alloc | apply pw_below_drewN | apply below_drew1) | exact HB.out)))); have n2_ := Aside0.mk (below_step (by repeat (first | (with_reducible first | exact HB.out | apply below_alloc | apply pw_below_drewN | apply below_drew1) | exact HB.out)) hb); clear HO271; clear HB; have HO271 := n0_; have HO274 := n1_; have HB := n2_; clear n0_ n1_ n2_; (try clear hb); (try clear hb2); (try clear hk); (try clear hi); (try clear ho0); obtain ⟨Ao42, co42, eo42⟩ := Kd.R_slice HO271.out; subst eo42; have p275 : 0 ≤ (0 : Int) := (by omega); have q275 : 0 < (t269.length : Int) := of_decide_eq_true (by first | (with_reducible assumption) | assumption); obtain ⟨ad275, e275, hx275_0⟩ := Kd.at_int (Kd.R_reads' HO271.out).2.2 0 p275 q275; cases e275; have qi275 : (0 < t269.length) = True := eq_true (by omega); (try rw [show ((0 : Int)).toNat = 0 from rfl] at hx275_0); (try rw [Addr.add_zero'] at hx275_0); replace p275 := eq_true p275; replace q275 := eq_true q275; have p35 : 0 ≤ (0 : Int) := (by omega); have q35 : (0 : Int) < ((t269.length : Int) : Int) := of_decide_eq_true (by first | (with_reducible assumption) | assumption); have qi35 : (0 < t269.length) = True := eq_true (by omega); obtain ⟨go35, co35, eo35, gb35, gl35, cl35, HG35⟩ := Kd.R_form HO271.out (by omega); (first | cases eo35 | (injection eo35 with ea_ en_ ec_; (first | subst ea_ | (injection ea_ with ea_; subst ea_)); subst ec_; clear en_)); have GB35 := Aside0.mk gb35; have GG35 := Aside0.mk HG35; clear gb35 gl35 HG35; (first | simp only [add_plain] at hx275_0 | skip); obtain ⟨hx35_0, hf35_0⟩ := Kd.R_celln 0 HO271.out (0 : Int) p35 q35; (try rw [show ((0 : Int)).toNat = 0 from rfl] at hx35_0); (try simp only [Nat.reduceMul, Nat.zero_mul, Nat.zero_add, Nat.reduceAdd] at hx35_0); (try rw [show ((0 : Int)).toNat = 0 from rfl] at hf35_0); (try simp only [Nat.reduceMul, Nat.zero_mul, Nat.zero_add, Nat.reduceAdd] at hf35_0); replace p35 := eq_true p35; replace q35 := eq_true q35; have n_ := Aside0.mk (Kd.R_mono (ok' := (fun k_ => some k_ ≠ (v273 : Value).ownBlock)) HO271.out (fun k_ hk => hk.2)); clear HO271; have HO271 := n_; clear n_; obtain ⟨hy43_, hz43_⟩ := Kd.R_celln 0 HO271.out (0 : Int) (by omega) (of_decide_eq_true (by first | (with_reducible assumption) | assumption)); (try simp only [Int.reduceToNat, Int.toNat_zero, Int.toNat_ofNat, Nat.reduceMul, Nat.zero_mul, Nat.zero_add] at hy43_ hz43_); (try rw [show ((0 : Int)).toNat = 0 from rfl] at hy43_); (try rw [show ((0 : Int)).toNat = 0 from rfl] at hz43_); have HP43 := Kd.R_putg HO271.out (0 : Int) (Go.bits .xor .u8 (rd t269 0) 128)) | ((with_reducible refine gate_store (t := 5) (p := 67) rfl ?_); refine store_event (t := 5) (p := 67) (v := ?vo_w44) (w1 := (w41.setCell ⟨go35, (0 : Int).toNat, none⟩ (.int .u8 (Go.bits .xor .u8 (rd t269 0) 128)))) ?hg ?ho ?hn ?hr ?_; (case ho => rfl); (case hg => rfl); (case hn => rfl); (case hr => first | (go_simp; done) | (go_simp; rfl)); intro w44 hw; have hg : w41.grownBy w44 (some go35) := (by rw [hw]; exact HP43.2); have hp_ : Kd.R (Kd.int .u8) 5 w44 w.heap.size (fun k_ => some k_ ≠ (v273 : Value).ownBlock) (.slice (some ⟨go35, 0, none⟩) t269.length co42) y276 := (by rw [hw, Ny276.out]; exact HP43.1); clear HP43; have n0_ := Aside0.mk (hp_); have n1_ := Aside0.mk (Kd.R_after (v := (.slice (some ⟨go35, 0, none⟩) t269.length co42)) (v1 := (.slice (some ⟨go35, 0, none⟩) t269.length co42)) (ok := (fun _ => True)) (by (with_reducible repeat (first | apply Kd.R_alloc | apply Kd.R_drewN | apply Kd.R_drew)); exact HO274.out) hg (.inl rfl)); have n2_ := Aside0.mk ((by rw [hw]; exact below_set (HB.out) GB35.out : Below w.heap.size w w44)); clear HO271; clear HO274; clear HB; have HO271 := n0_; have HO274 := n1_; have HB := n2_; clear n0_ n1_ n2_; clear hg hw hp_; obtain ⟨Ao45, co45, eo45⟩ := Kd.R_slice HO274.out; subst eo45; have p277 : 0 ≤ (0 : Int) := (by omega); have q277 : 0 < (t272.length : Int) := of_decide_eq_true (by first | (with_reducible assumption) | assumption); obtain ⟨ad277, e277, hx277_0⟩ := Kd.at_int (Kd.R_reads' HO274.out).2.2 0 p277 q277; cases e277; have qi277 : (0 < t272.length) = True := eq_true (by omega); (try rw [show ((0 : Int)).toNat = 0 from rfl] at hx277_0); (try rw [Addr.add_zero'] at hx277_0); replace p277 := eq_true p277; replace q277 := eq_true q277; have p37 : 0 ≤ (0 : Int) := (by omega); have q37 : (0 : Int) < ((t272.length : Int) : Int) := of_decide_eq_true (by first | (with_reducible assumption) | assumption); have qi37 : (0 < t272.length) = True := eq_true (by omega); obtain ⟨go37, co37, eo37, gb37, gl37, cl37, HG37⟩ := Kd.R_form HO274.out (by omega); (first | cases eo37 | (injection eo37 with ea_ en_ ec_; (first | subst ea_ | (injection ea_ with ea_; subst ea_)); subst ec_; clear en_)); have GB37 := Aside0.mk gb37; have GG37 := Aside0.mk HG37; clear gb37 gl37 HG37; (first | simp only [add_plain] at hx277_0 | skip); obtain ⟨hx37_0, hf37_0⟩ := Kd.R_celln 0 HO274.out (0 : Int) p37 q37; (try rw [show ((0 : Int)).toNat = 0 from rfl] at hx37_0); (try simp only [Nat.reduceMul, Nat.zero_mul, Nat.zero_add, Nat.reduceAdd] at hx37_0); (try rw [show ((0 : Int)).toNat = 0 from rfl] at hf37_0); (try simp only [Nat.reduceMul, Nat.zero_mul, Nat.zero_add, Nat.reduceAdd] at hf37_0); replace p37 := eq_true p37; replace q37 := eq_true q37; have n_ := Aside0.mk (Kd.R_mono (ok' := (fun k_ => some k_ ≠ (.slice (some ⟨go35, 0, none⟩) t269.length co42 : Value).ownBlock)) HO274.out (fun k_ hk => hk.2)); clear HO274; have HO274 := n_; clear n_; obtain ⟨hy46_, hz46_⟩ := Kd.R_celln 0 HO274.out (0 : Int) (by omega) (of_decide_eq_true (by first | (with_reducible assumption) | assumption)); (try simp only [Int.reduceToNat, Int.toNat_zero, Int.toNat_ofNat, Nat.reduceMul, Nat.zero_mul, Nat.zero_add] at hy46_ hz46_); (try rw [show ((0 : Int)).toNat = 0 from rfl] at hy46_); (try rw [show ((0 : Int)).toNat = 0 from rfl] at hz46_); have HP46 := Kd.R_putg HO274.out (0 : Int) (Go.bits .xor .u8 (rd t272 0) 128)) | ((with_reducible refine gate_store (t := 5) (p := 72) rfl ?_); refine store_event (t := 5) (p := 72) (v := ?vo_w47) (w1 := (w44.setCell ⟨go37, (0 : Int).toNat, none⟩ (.int .u8 (Go.bits .xor .u8 (rd t272 0) 128)))) ?hg ?ho ?hn ?hr ?_; (case ho => rfl); (case hg => rfl); (case hn => rfl); (case hr => first | (go_simp; done) | (go_simp; rfl)); intro w47 hw; have hg : w44.grownBy w47 (some go37) := (by rw [hw]; exact HP46.2); have hp_ : Kd.R (Kd.int .u8) 5 w47 w.heap.size (fun k_ => some k_ ≠ (.slice (some ⟨go35, 0, none⟩) t269.length co42 : Value).ownBlock) (.slice (some ⟨go37, 0, none⟩) t272.length co45) y278 := (by rw [hw, Ny278.out]; exact HP46.1); clear HP46; have n0_ := Aside0.mk (Kd.R_after (v := (.slice (some ⟨go37, 0, none⟩) t272.length co45)) (v1 := (.slice (some ⟨go37, 0, none⟩) t272.length co45)) (ok := (fun _ => True)) (by (with_reducible repeat (first | apply Kd.R_alloc | apply Kd.R_drewN | apply Kd.R_drew)); exact Kd.R_mono HO271.out (fun _ hk => ⟨trivial, hk⟩)) hg (.inl rfl)); have n1_ := Aside0.mk (hp_); have n2_ := Aside0.mk ((by rw [hw]; exact below_set (HB.out) GB37.out : Below w.heap.size w w47)); clear HO271; clear HO274; clear HB; have HO271 := n0_; have HO274 := n1_; have HB := n2_; clear n0_ n1_ n2_; clear hg hw hp_) | ((with_reducible refine gate_callee (f := 52) rfl ?_); refine goesL_ (some 75) rfl rfl Try.func52 (by kernel_rfl) rfl #[.slice (some ⟨go35, 0, none⟩) y276.length co42, .slice (some ⟨go37, 0, none⟩) y278.length co45] rfl (by (try simp only [List.map_toArray, List.map_cons, List.map_nil]); first | done | (rw [show y276.length = t269.length from (Kd.R_reads' HO271.out).1.symm, show y278.length = t272.length from (Kd.R_reads' HO274.out).1.symm] <;> rfl) | rfl | (simp only [List.length_drop, List.length_take]; rfl)) ?_; (with_reducible refine (G.bytes_Compare.calls _ _ y276 _ _ y278 t279 _ ?side1 ?side2 ?side3 ?side4 A38.out).mono ?_); (case side1 => repeat (first | exact (Kd.R_reads' HO271.out).2.2 | (with_reducible refine Kd.C_alloc ?_ _) | (with_reducible refine Kd.C_drewN ?_ _) | (with_reducible refine Kd.C_drew ?_))); (case side2 => rw [show y276.length = t269.length from (Kd.R_reads' HO271.out).1.symm]; exact (Kd.R_reads' HO271.out).2.1); (case side3 => repeat (first | exact (Kd.R_reads' HO274.out).2.2 | (with_reducible refine Kd.C_alloc ?_ _) | (with_reducible refine Kd.C_drewN ?_ _) | (with_reducible refine Kd.C_drew ?_))); (case side4 => rw [show y278.length = t272.length from (Kd.R_reads' HO274.out).1.symm]; exact (Kd.R_reads' HO274.out).2.1); rintro e w' ⟨rfl, ⟨nd, rfl⟩⟩; refine ⟨_, rfl, ?_⟩) | ((with_reducible refine gate_callee (f := 54) rfl ?_); refine goesL_ (some 80) rfl rfl Try.func54 (by kernel_rfl) rfl #[.int .i64 (wrap64 (a1)), .int .i64 (wrap64 (a2))] rfl (by (try simp only [List.map_toArray, List.map_cons, List.map_nil]); first | done | rfl | (simp only [List.length_drop, List.length_take]; rfl)) ?_; (with_reducible refine (cmp_Compare_int64.calls (wrap64 (a1)) (wrap64 (a2)) t280 _ A39.out).mono ?_); rintro e w' ⟨rfl, ⟨nd, rfl⟩⟩; refine ⟨_, rfl, ?_⟩))
                          go_ret
                          exact ⟨by first | rfl | (simp [errW_none, errW_some] <;> rfl) | (simp [*, errW_none, errW_some] <;> rfl), by repeat (first | (with_reducible first | exact HB.out | apply below_alloc | apply pw_below_drewN | apply below_drew1) | exact HB.out)⟩
                        · rw [if_neg c36] at H
                          exact absurd H (by simp)
                      · rw [if_neg c34] at H
                        exact absurd H (by simp)
  · replace c5 := Bool.eq_false_iff.mpr c5
    subst c5
    have H1 : (some false) = some r := by rw [if_neg (show ¬ (false = true) by decide)] at H; exact H
    clear H
    have H := H1
    clear H1
    obtain rfl := Option.some.inj H
    go_enter Try.func16, Try.ntmps16
    go_wp2_with (first | ((with_reducible refine gate_callee (f := 17) rfl ?_); refine goesL_ (some 9) rfl rfl Try.func17 (by kernel_rfl) rfl #[] rfl (by (try simp only [List.map_toArray, List.map_cons, List.map_nil]); first | done | rfl | (simp only [List.length_drop, List.length_take]; rfl)) ?_; (with_reducible refine (G.wakes01.calls  false _ A4.out).mono ?_); rintro e w48 ⟨rfl, hb⟩; refine ⟨_, rfl, ?_⟩; have n0_ := Aside0.mk (below_step (by repeat (first | (with_reducible first | exact HB.out | apply below_alloc | apply pw_below_drewN | apply below_drew1) | exact HB.out)) hb); clear HB; have HB := n0_; clear n0_; (try clear hb); (try clear hb2); (try clear hk); (try clear hi)))
    go_ret
    exact ⟨by first | rfl | (simp [errW_none, errW_some] <;> rfl) | (simp [*, errW_none, errW_some] <;> rfl), by repeat (first | (with_reducible first | exact HB.out | apply below_alloc | apply pw_below_drewN | apply below_drew1) | exact HB.out)⟩

/-- THE ONE PURE STATEMENT of quiverlaw01_FieldOrders: yours. -/
def quiverlaw01_FieldOrders.Pure : Prop := ∀ (a0 : Int) (a1 : Int) (a2 : Int), (Lit.int .i64 a0).wf = true → (Lit.int .u64 a1).wf = true → (Lit.int .u64 a2).wf = true → ∃ k, quiverlaw01_FieldOrders.f k a0 a1 a2 = some true
theorem quiverlaw01_FieldOrders.walk (P : quiverlaw01_FieldOrders.Pure) (a0 : Int) (a1 : Int) (a2 : Int) (w : World) (w0 : (Lit.int .i64 a0).wf = true) (w1 : (Lit.int .u64 a1).wf = true) (w2 : (Lit.int .u64 a2).wf = true) :
    Calls Try.prog 16 #[.int .i64 a0, .int .u64 a1, .int .u64 a2] w fun e w' => e = .returned (.bool true) ∧ Below w.heap.size w w' := by
  obtain ⟨k, h⟩ := P a0 a1 a2 w0 w1 w2
  refine (quiverlaw01_FieldOrders.calls k a0 a1 a2 true w h).mono ?_
  rintro e w' ⟨rfl, hd⟩
  exact ⟨rfl, hd⟩

end Go.Proofs.Ytanijhlpneiebaa.P
