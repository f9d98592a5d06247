/- Contracts of quiverref09.SameCells, Same. Plain: what ArenaTells asks of the document's functions; whose slots are whose. ArenaTells: the walk. -/
import Derived.Test.YtoblkjdiahoplaaA6
import Derived.Test.YtoblkjdiahoplaaI
import Derived.Test.YtoblkjdiahoplaaPr
import Derived.BigQuiet
import Derived.Test.YtoblkjdiahoplaaRB
import Derived.Test.YtoblkjdiahoplaaA5
import Derived.Test.YtoblkjdiahoplaaOv
import Derived.Test.YtoblkjdiahoplaaPx10
import Derived.Deep.RegionHeld3
namespace Go.Proofs.Ytoblkjdiahoplaa.G
open Go.Shelf Go.RowKit Go.Proofs.YtoblkjdiahoplaaW.PrintWords Go.Proofs.YtoblkjdiahoplaaW.PrintLast Go.Proofs.YtoblkjdiahoplaaW.PrintMore
set_option linter.unusedVariables false
set_option linter.unusedSimpArgs false

section
theorem rfs_l0 (l m : List Int) (hlm : l.length = m.length) (hl : l.length ≤ 9223372036854775807) : ∀ (d i k : Nat), i + d = l.length → d < k → P.quiverref05_Same.l0 k l m (i : Int) = some (decide (l.drop i = m.drop i))
  | 0, i, k + 1, h, _ => by
    rw [P.quiverref05_Same.l0, if_neg (by omega), List.drop_eq_nil_of_le (by omega), List.drop_eq_nil_of_le (by omega)]
    rfl
  | d + 1, i, k + 1, h, hk => by
    rw [P.quiverref05_Same.l0, if_pos (by omega), if_pos (by omega), if_pos (by omega), rd_nat, rd_nat, drop_at l i 0 (by omega), drop_at m i 0 (by omega)]
    by_cases e : l.getD i 0 = m.getD i 0
    · rw [if_pos e, w64 (by omega) (by omega), show ((i : Int) + 1) = ((i + 1 : Nat) : Int) by omega, rfs_l0 l m hlm hl d (i + 1) k (by omega) (by omega), e]
      simp
    · rw [if_neg e, decide_eq_false (fun h => e (List.cons.inj h).1)]
theorem rfs_is (k : Nat) (l m : List Int) (hk : l.length < k) (hl : l.length ≤ 9223372036854775807) : P.quiverref05_Same.f k l m = some (decide (l = m)) := by
  unfold P.quiverref05_Same.f
  by_cases h : l.length = m.length
  · rw [if_pos (by omega)]
    have := rfs_l0 l m h hl l.length 0 k (by omega) (by omega)
    rw [List.drop_zero, List.drop_zero] at this
    rw [show (0 : Int) = ((0 : Nat) : Int) from rfl, this]
  · rw [if_neg (by omega)]
    have : l ≠ m := fun e => h (by rw [e])
    simp [this]
theorem rfsv_is (k : Nat) (a b : Int) (v : List Int) (c d : Int) (u : List Int) (hk : v.length < k) (hl : v.length ≤ 9223372036854775807) : P.quiverref07_SameVersion.f k a b v c d u = some (decide (a = c ∧ b = d ∧ v = u)) := by
  unfold P.quiverref07_SameVersion.f
  rw [rfs_is k v u hk hl]
  by_cases h0 : a = c <;> by_cases h1 : b = d <;> simp [h0, h1]
set_option maxHeartbeats 4000000 in
set_option maxRecDepth 100000 in
theorem refSameCells (A : Option Addr) (c : Nat) (a : List Cell) (B : Option Addr) (d : Nat) (b : List Cell) (w : World) (hr : Kd.C kC w A a.length a) (hr' : Kd.C kC w B b.length b) :
    Calls Try.prog 28 #[.slice A a.length c, .slice B b.length d] w fun e w' => e = .returned (.bool (eqCells a b)) ∧ Below w.heap.size w w' := by
  have HR := Aside0.mk hr
  have HR' := Aside0.mk hr'
  have hm := Kd.C_max hr
  have hm' := Kd.C_max hr'
  clear hr hr'
  by_cases hl : a.length = b.length
  case neg =>
    have e1 : ((a.length : Int) != (b.length : Int)) = true := by rw [bne_iff_ne]; omega
    have e2 : eqCells a b = false := by unfold eqCells; rw [decide_eq_false hl]; rfl
    rw [e2]
    clear hl e2
    go_enter Try.func28, Try.ntmps28
    go_wp2_with fail
    go_returns
    exact ⟨rfl, Below.refl _ _⟩
  case pos =>
    have e1 : ((a.length : Int) != (b.length : Int)) = false := by rw [bne_eq_false_iff_eq]; omega
    have HL := Aside0.mk hl
    obtain ⟨r, hrr⟩ : ∃ r, r = eqCells a b := ⟨_, rfl⟩
    rw [← hrr]
    have HRR := Aside0.mk (show r = (List.range a.length).all (fun k => sameC (cellAt a k) (cellAt b k)) by rw [hrr]; unfold eqCells; rw [decide_eq_true hl]; rfl)
    clear hl hrr
    go_enter Try.func28, Try.ntmps28
    go_wp2_with fail
    go_loopg [5] a.length (fun gg s5 wr => ∃ kk : Nat, kk ≤ a.length ∧ a.length - kk ≤ gg ∧ s5 = .int .i64 kk ∧ Aside0 (Below w.heap.size w wr) ∧ Aside0 (∀ j, j < kk → sameC (cellAt a j) (cellAt b j) = true))
    case atStart => exact ⟨0, Nat.zero_le _, by omega, rfl, ⟨Below.refl _ _⟩, ⟨fun j hj => absurd hj (Nat.not_lt_zero _)⟩⟩
    case round =>
      obtain ⟨kk, hkk, hg, rfl, HD, HS⟩ := hrel
      by_cases hlt : kk < a.length
      · have hltz : (kk : Int) < (a.length : Int) := by omega
        have hltb : (kk : Int) < (b.length : Int) := by have := HL.out; omega
        obtain ⟨ad, A4, c4, hA, p0, p1, p2, p3, p4, hl4, hC4⟩ := P.at_T36 (Kd.C_below HR.out HD.out) (kk : Int) (by omega) (by omega)
        obtain ⟨bd, B4, d4, hB, q0, q1, q2, q3, q4, hl5, hC5⟩ := P.at_T36 (Kd.C_below HR'.out HD.out) (kk : Int) (by omega) (by omega)
        subst hA hB
        simp only [Int.toNat_natCast] at p0 p1 p2 p3 p4 q0 q1 q2 q3 q4
        have hS1 : (sameC (P.rd_T36 a (kk : Int)) (P.rd_T36 b (kk : Int)) = true → ∀ j, j < kk + 1 → sameC (cellAt a j) (cellAt b j) = true) := fun h j hj => by
          by_cases e : j = kk
          · rw [e]; exact h
          · exact HS.out j (by omega)
        have hS2 : (sameC (P.rd_T36 a (kk : Int)) (P.rd_T36 b (kk : Int)) = false → r = false) := fun h => by
          rw [HRR.out, List.all_eq_false]
          exact ⟨kk, List.mem_range.mpr hlt, by rw [show sameC (cellAt a kk) (cellAt b kk) = false from h]; simp⟩
        have HS1 := Aside0.mk hS1
        have HS2 := Aside0.mk hS2
        clear hS1 hS2
        generalize P.rd_T36 a (kk : Int) = x at *
        generalize P.rd_T36 b (kk : Int) = y at *
        obtain ⟨s, hs⟩ : ∃ s, s = decide (x.f2.f0 = y.f2.f0 ∧ x.f2.f1 = y.f2.f1 ∧ x.f2.f2 = y.f2.f2) := ⟨_, rfl⟩
        have HC := Aside0.mk (fun (p : Gr wr) => P.quiverref07_SameVersion.calls (x.f2.f2.length + 1) x.f2.f0 x.f2.f1 A4 c4 x.f2.f2 y.f2.f0 y.f2.f1 B4 d4 y.f2.f2 s p.w (Kd.C_below hC4 p.h) hl4 (Kd.C_below hC5 p.h) hl5 (by rw [rfsv_is _ _ _ _ _ _ _ (by omega) (Kd.C_max hC4), hs]))
        have hsx : sameC x y = (decide (x.f0 = y.f0) && (decide (x.f1 = y.f1) && s)) := by
          rw [hs]; unfold sameC
          by_cases h0 : x.f0 = y.f0 <;> by_cases h1 : x.f1 = y.f1 <;> simp [h0, h1]
        rw [hsx] at HS1 HS2
        clear hC4 hC5 hl4 hl5 hsx hs
        have X0 := fun p => Gr.cell p0 p
        have X1 := fun p => Gr.cell p1 p
        have X2 := fun p => Gr.cell p2 p
        have X3 := fun p => Gr.cell p3 p
        have X4 := fun p => Gr.cell p4 p
        have Y0 := fun p => Gr.cell q0 p
        have Y1 := fun p => Gr.cell q1 p
        have Y2 := fun p => Gr.cell q2 p
        have Y3 := fun p => Gr.cell q3 p
        have Y4 := fun p => Gr.cell q4 p
        clear p0 p1 p2 p3 p4 q0 q1 q2 q3 q4
        obtain ⟨u0, hu0⟩ : ∃ u, u = x.f0 := ⟨_, rfl⟩
        obtain ⟨v0, hv0⟩ : ∃ v, v = y.f0 := ⟨_, rfl⟩
        rw [← hu0] at X0
        rw [← hv0] at Y0
        rw [← hu0, ← hv0] at HS1 HS2
        clear hu0 hv0
        cases u0 with
        | true =>
          cases v0 with
          | true =>
            rw [show decide (true = true) = true from rfl] at HS1 HS2
            by_cases h1 : x.f1 = y.f1
            · have n1 : (x.f1 != y.f1) = false := by rw [h1]; simp
              rw [decide_eq_true h1] at HS1 HS2
              clear h1
              cases s with
              | true =>
                go_wp2_with fail
                refine wp_region_gr (by kernel_rfl) (by kernel_rfl) ?_
                repeat (go_big_quiet_step ((go_at_call 52; exact Calls.gr_of (HC.out _))))
                refine wpQuiet_nil ?_
                intro w9 hw'
                have HB9 := Aside0.mk (below_step HD.out (show Below wr.heap.size wr w9 by obtain ⟨p, rfl⟩ := hw'; exact p.h))
                clear hw' HC X0 X1 X2 X3 X4 Y0 Y1 Y2 Y3 Y4
                go_wp2_with fail
                have HS3 := Aside0.mk (HS1.out rfl)
                go_roundg (a.length - (kk + 1))
                case measure => omega
                case rel => exact ⟨kk + 1, hlt, by omega, by go_num, HB9, HS3⟩
              | false =>
                go_wp2_with fail
                refine wp_region_gr (by kernel_rfl) (by kernel_rfl) ?_
                repeat (go_big_quiet_step ((go_at_call 52; exact Calls.gr_of (HC.out _))))
                refine wpQuiet_nil ?_
                intro w9 hw'
                have HB9 := Aside0.mk (below_step HD.out (show Below wr.heap.size wr w9 by obtain ⟨p, rfl⟩ := hw'; exact p.h))
                clear hw' HC X0 X1 X2 X3 X4 Y0 Y1 Y2 Y3 Y4
                go_wp2_with fail
                go_returns
                exact ⟨by rw [HS2.out rfl]; rfl, HB9.out⟩
            · have n1 : (x.f1 != y.f1) = true := by rw [bne_iff_ne]; exact h1
              rw [decide_eq_false h1] at HS1 HS2
              clear h1
              go_wp2_with fail
              refine wp_region_gr (by kernel_rfl) (by kernel_rfl) ?_
              repeat (go_big_quiet_step ((go_at_call 52; exact Calls.gr_of (HC.out _))))
              refine wpQuiet_nil ?_
              intro w9 hw'
              have HB9 := Aside0.mk (below_step HD.out (show Below wr.heap.size wr w9 by obtain ⟨p, rfl⟩ := hw'; exact p.h))
              clear hw' HC X0 X1 X2 X3 X4 Y0 Y1 Y2 Y3 Y4
              go_wp2_with fail
              go_returns
              exact ⟨by rw [HS2.out rfl]; rfl, HB9.out⟩
          | false =>
            rw [show decide (true = false) = false from rfl] at HS1 HS2
            go_wp2_with fail
            refine wp_region_gr (by kernel_rfl) (by kernel_rfl) ?_
            repeat (go_big_quiet_step ((go_at_call 52; exact Calls.gr_of (HC.out _))))
            refine wpQuiet_nil ?_
            intro w9 hw'
            have HB9 := Aside0.mk (below_step HD.out (show Below wr.heap.size wr w9 by obtain ⟨p, rfl⟩ := hw'; exact p.h))
            clear hw' HC X0 X1 X2 X3 X4 Y0 Y1 Y2 Y3 Y4
            go_wp2_with fail
            go_returns
            exact ⟨by rw [HS2.out rfl]; rfl, HB9.out⟩
        | false =>
          cases v0 with
          | true =>
            rw [show decide (false = true) = false from rfl] at HS1 HS2
            go_wp2_with fail
            refine wp_region_gr (by kernel_rfl) (by kernel_rfl) ?_
            repeat (go_big_quiet_step ((go_at_call 52; exact Calls.gr_of (HC.out _))))
            refine wpQuiet_nil ?_
            intro w9 hw'
            have HB9 := Aside0.mk (below_step HD.out (show Below wr.heap.size wr w9 by obtain ⟨p, rfl⟩ := hw'; exact p.h))
            clear hw' HC X0 X1 X2 X3 X4 Y0 Y1 Y2 Y3 Y4
            go_wp2_with fail
            go_returns
            exact ⟨by rw [HS2.out rfl]; rfl, HB9.out⟩
          | false =>
            rw [show decide (false = false) = true from rfl] at HS1 HS2
            by_cases h1 : x.f1 = y.f1
            · have n1 : (x.f1 != y.f1) = false := by rw [h1]; simp
              rw [decide_eq_true h1] at HS1 HS2
              clear h1
              cases s with
              | true =>
                go_wp2_with fail
                refine wp_region_gr (by kernel_rfl) (by kernel_rfl) ?_
                repeat (go_big_quiet_step ((go_at_call 52; exact Calls.gr_of (HC.out _))))
                refine wpQuiet_nil ?_
                intro w9 hw'
                have HB9 := Aside0.mk (below_step HD.out (show Below wr.heap.size wr w9 by obtain ⟨p, rfl⟩ := hw'; exact p.h))
                clear hw' HC X0 X1 X2 X3 X4 Y0 Y1 Y2 Y3 Y4
                go_wp2_with fail
                have HS3 := Aside0.mk (HS1.out rfl)
                go_roundg (a.length - (kk + 1))
                case measure => omega
                case rel => exact ⟨kk + 1, hlt, by omega, by go_num, HB9, HS3⟩
              | false =>
                go_wp2_with fail
                refine wp_region_gr (by kernel_rfl) (by kernel_rfl) ?_
                repeat (go_big_quiet_step ((go_at_call 52; exact Calls.gr_of (HC.out _))))
                refine wpQuiet_nil ?_
                intro w9 hw'
                have HB9 := Aside0.mk (below_step HD.out (show Below wr.heap.size wr w9 by obtain ⟨p, rfl⟩ := hw'; exact p.h))
                clear hw' HC X0 X1 X2 X3 X4 Y0 Y1 Y2 Y3 Y4
                go_wp2_with fail
                go_returns
                exact ⟨by rw [HS2.out rfl]; rfl, HB9.out⟩
            · have n1 : (x.f1 != y.f1) = true := by rw [bne_iff_ne]; exact h1
              rw [decide_eq_false h1] at HS1 HS2
              clear h1
              go_wp2_with fail
              refine wp_region_gr (by kernel_rfl) (by kernel_rfl) ?_
              repeat (go_big_quiet_step ((go_at_call 52; exact Calls.gr_of (HC.out _))))
              refine wpQuiet_nil ?_
              intro w9 hw'
              have HB9 := Aside0.mk (below_step HD.out (show Below wr.heap.size wr w9 by obtain ⟨p, rfl⟩ := hw'; exact p.h))
              clear hw' HC X0 X1 X2 X3 X4 Y0 Y1 Y2 Y3 Y4
              go_wp2_with fail
              go_returns
              exact ⟨by rw [HS2.out rfl]; rfl, HB9.out⟩
      · obtain rfl : kk = a.length := by omega
        have HE := Aside0.mk (show r = true by rw [HRR.out]; exact List.all_eq_true.mpr (fun j hj => HS.out j (List.mem_range.mp hj)))
        go_wp2_with fail
        go_returns
        exact ⟨by rw [HE.out]; rfl, HD.out⟩

set_option maxHeartbeats 1000000 in
set_option maxRecDepth 100000 in
theorem refSame.calls (A0 : Option Addr) (c0 : Nat) (l0 : List Cell) (A1 : Option Addr) (c1 : Nat) (l1 : List Cell) (r : Bool) (w : World) (hr0 : Kd.C kC w A0 l0.length l0) (hc0 : l0.length ≤ c0) (hr1 : Kd.C kC w A1 l1.length l1) (hc1 : l1.length ≤ c1) (h : arena_Same.f l0 l1 = some r) :
    Calls Try.prog 14 #[.agg #[.slice A0 l0.length c0], .agg #[.slice A1 l1.length c1]] w fun e w' => e = .returned (.bool r) ∧ Below w.heap.size w w' := by
  have hr := Option.some.inj h
  obtain ⟨w1, hw1⟩ : ∃ w1, w1 = (w.alloc (.cells #[.slice A0 l0.length c0] 26)).alloc (.cells #[.slice A1 l1.length c1] 26) := ⟨_, rfl⟩
  have hsz : (w.alloc (.cells #[.slice A0 l0.length c0] 26)).heap.size = w.heap.size + 1 := by simp
  have HB1 := Aside0.mk (show Below w.heap.size w w1 by rw [hw1]; exact ((Below.refl _ _).alloc (Nat.le_refl _) _).alloc (by simp) _)
  have hb0 : w1.heap[w.heap.size]? = some (.cells #[.slice A0 l0.length c0] 26 (0, 0)) := by rw [hw1]; exact (Below.heap_alloc _ _ _ (by simp)).trans (heap_alloc_new w _)
  have hb1 : w1.heap[w.heap.size + 1]? = some (.cells #[.slice A1 l1.length c1] 26 (0, 0)) := by rw [hw1, ← hsz]; exact heap_alloc_new _ _
  have q0 : w1.cell? ⟨w.heap.size, 0, none⟩ = some (.slice A0 l0.length c0) := (blk_cell hb0 0).trans rfl
  have q1 : w1.cell? ⟨w.heap.size + 1, 0, none⟩ = some (.slice A1 l1.length c1) := (blk_cell hb1 0).trans rfl
  have HE := Aside0.mk (refSameCells A0 c0 l0 A1 c1 l1 w1 (Kd.C_below hr0 HB1.out) (Kd.C_below hr1 HB1.out))
  rw [hr] at HE
  have HW := Aside0.mk hw1
  clear hb0 hb1 hw1 hr0 hc0 hr1 hc1 h hr hsz
  go_enter Try.func14, Try.ntmps14
  go_upto_region 1 with (fail)
  rw [← HW.out]
  go_wp2_with fail
  refine HE.out.mono ?_
  rintro e w2 ⟨rfl, hd⟩
  have HB := Aside0.mk (below_step HB1.out hd)
  clear hd
  go_wp2_with fail
  go_returns
  exact ⟨rfl, HB.out⟩
end

section
theorem cellAt_lt' (l : List Cell) (k : Nat) (h : k < l.length) : cellAt l k = l[k] := by
  unfold cellAt P.rd_T36
  rw [Int.toNat_natCast, List.getD_eq_getElem?_getD, List.getElem?_eq_getElem h]; rfl
theorem usedL_take' (l : List Cell) : ∀ n, n ≤ l.length → usedL l n = (l.take n).filter (fun x => x.f0) := by
  intro n
  induction n with
  | zero => intro _; rfl
  | succ n ih =>
    intro h
    unfold usedL at ih ⊢
    rw [usedI_succ, List.map_append, ih (by omega), List.take_add_one, List.filter_append, List.getElem?_eq_getElem (by omega)]
    congr 1
    rw [← cellAt_lt' l n (by omega)]
    cases hx : (cellAt l n).f0 <;> simp [hx]
theorem usedL_is' (l : List Cell) : usedL l l.length = l.filter (fun x => x.f0) := by rw [usedL_take' l l.length (Nat.le_refl _), List.take_length]
theorem usedL_len' (l : List Cell) (n : Nat) : (usedL l n).length = (usedI l n).length := by unfold usedL; rw [List.length_map]
theorem tver_is (k : Nat) (b e : Int) (v : List Int) (hk : v.length < k) (hl : v.length ≤ 9223372036854775807) : P.quiverref07_RightVersion.f k b e v = some (rightVer b e v) := by
  unfold P.quiverref07_RightVersion.f rightVer
  by_cases h1 : b < 1
  · rw [if_pos h1, decide_eq_false (show ¬ (1 ≤ b ∧ b ≤ 1099511627776) by omega)]; simp
  · by_cases h2 : b > 1099511627776
    · rw [if_neg h1, if_pos h2, decide_eq_false (show ¬ (1 ≤ b ∧ b ≤ 1099511627776) by omega)]; simp
    · rw [if_neg h1, if_neg h2, decide_eq_true (show 1 ≤ b ∧ b ≤ 1099511627776 by omega), right_is k v hk hl]
      by_cases h3 : e > 1099511627776
      · rw [if_pos h3, decide_eq_false (show ¬ (e = 0 ∨ (b < e ∧ e ≤ 1099511627776)) by omega)]; simp
      · rw [if_neg h3]
        by_cases h4 : e = 0
        · rw [if_pos h4, decide_eq_true (show e = 0 ∨ (b < e ∧ e ≤ 1099511627776) by omega)]; simp
        · rw [if_neg h4]
          by_cases h5 : e ≤ b
          · rw [if_pos h5, decide_eq_false (show ¬ (e = 0 ∨ (b < e ∧ e ≤ 1099511627776)) by omega)]; simp
          · rw [if_neg h5, decide_eq_true (show e = 0 ∨ (b < e ∧ e ≤ 1099511627776) by omega)]; simp
theorem tcell_is (k : Nat) (x : Cell) (hk : x.f2.f2.length < k) (hl : x.f2.f2.length ≤ 50) :
    P.quiverref09_Cell.f k x.f0 x.f1 x.f2.f0 x.f2.f1 x.f2.f2 = some (cellOk x) := by
  unfold P.quiverref09_Cell.f cellOk
  by_cases h : x.f0 = true
  · rw [if_pos h, if_pos h, tver_is k _ _ _ hk (by omega), Option.bind_some]
  · rw [if_neg h, if_neg h]
    by_cases h1 : x.f1 = 0
    · rw [if_pos h1]
      by_cases h2 : x.f2.f0 = 0
      · rw [if_pos h2]
        by_cases h3 : x.f2.f1 = 0
        · rw [if_pos h3]
          cases hv : x.f2.f2 with
          | nil => simp [h1, h2, h3]
          | cons a t => simp [h1, h2, h3]; omega
        · rw [if_neg h3]; simp [h3]
      · rw [if_neg h2]; simp [h2]
    · rw [if_neg h1]; simp [h1]
/-- The law's own bound: a step of the loop, and the whole. -/
theorem tov_l0 (l : List Cell) (hl : l.length ≤ 120) : ∀ (d i k : Nat), i + d = l.length → d < k →
    P.quiverlaw09_overCells.l0 k l (l.length : Int) (i : Int) = some (!((l.drop i).all (fun x => decide (x.f2.f2.length ≤ 50)))) := by
  intro d
  induction d with
  | zero =>
    intro i k hi hk
    obtain ⟨k', rfl⟩ : ∃ k', k = k' + 1 := ⟨k - 1, by omega⟩
    rw [P.quiverlaw09_overCells.l0, if_neg (by omega), List.drop_eq_nil_of_le (by omega)]; rfl
  | succ d ih =>
    intro i k hi hk
    obtain ⟨k', rfl⟩ : ∃ k', k = k' + 1 := ⟨k - 1, by omega⟩
    rw [P.quiverlaw09_overCells.l0, if_pos (by omega), if_pos (by omega), if_pos (by omega), show P.rd_T36 l (i : Int) = l.getD i P.z36 from by unfold P.rd_T36; rw [Int.toNat_natCast],
      show wrap64 ((i : Int) + 1) = ((i + 1 : Nat) : Int) from by rw [w64 (by omega) (by omega)]; omega, ih (i + 1) k' (by omega) (by omega),
      drop_at l i P.z36 (by omega), List.all_cons]
    generalize l.getD i P.z36 = x
    by_cases hx : ((x.f2.f2.length : Nat) : Int) > 50
    · rw [if_pos hx, decide_eq_false (show ¬ x.f2.f2.length ≤ 50 by omega)]; rfl
    · rw [if_neg hx, decide_eq_true (show x.f2.f2.length ≤ 50 by omega)]; rfl
theorem tov_is (k : Nat) (l : List Cell) (hk : 121 < k) : P.quiverlaw09_overCells.f k l = some true ∨
    (P.quiverlaw09_overCells.f k l = some false ∧ l.length ≤ 120 ∧ ∀ x ∈ l, x.f2.f2.length ≤ 50) := by
  unfold P.quiverlaw09_overCells.f
  by_cases h : (l.length : Int) > 120
  · rw [if_pos h]; exact Or.inl rfl
  · rw [if_neg h]
    have e := tov_l0 l (by omega) l.length 0 k (by omega) (by omega)
    rw [List.drop_zero] at e
    rw [show (0 : Int) = ((0 : Nat) : Int) from rfl, e]
    cases ha : l.all (fun x => decide (x.f2.f2.length ≤ 50)) with
    | false => exact Or.inl rfl
    | true => exact Or.inr ⟨rfl, by omega, fun x hx => of_decide_eq_true (List.all_eq_true.mp ha x hx)⟩
theorem tov_no (l : List Cell) (h : P.quiverlaw09_over.f 200 l = some false) : l.length ≤ 120 ∧ ∀ x ∈ l, x.f2.f2.length ≤ 50 := by
  unfold P.quiverlaw09_over.f at h
  rcases tov_is 200 l (by omega) with h1 | h1
  · rw [h1] at h; simp at h
  · exact h1.2
theorem tright_l0 (l : List Cell) (hl : l.length ≤ 120) (hv : ∀ x ∈ l, x.f2.f2.length ≤ 50) : ∀ (d i k : Nat), i + d = l.length → d + 51 < k →
    P.quiverref09_Right.l0 k (i : Int) l = some ((l.drop i).all cellOk && decide (l.length = 96)) := by
  intro d
  induction d with
  | zero =>
    intro i k hi hk
    obtain ⟨k', rfl⟩ : ∃ k', k = k' + 1 := ⟨k - 1, by omega⟩
    rw [P.quiverref09_Right.l0, if_neg (by omega), List.drop_eq_nil_of_le (by omega)]
    by_cases h : l.length = 96
    · rw [h]; rfl
    · rw [show ((l.length : Int) == 96) = false by rw [beq_eq_false_iff_ne]; omega, decide_eq_false h]; rfl
  | succ d ih =>
    intro i k hi hk
    obtain ⟨k', rfl⟩ : ∃ k', k = k' + 1 := ⟨k - 1, by omega⟩
    have hx : P.rd_T36 l (i : Int) = l[i] := cellAt_lt' l i (by omega)
    have hxv := hv l[i] (List.getElem_mem _)
    rw [P.quiverref09_Right.l0, if_pos (by omega), if_pos (by omega), hx, tcell_is k' _ (by omega) hxv, Option.bind_some, List.drop_eq_getElem_cons (by omega), List.all_cons]
    cases hc : cellOk l[i] with
    | false => rfl
    | true =>
      rw [if_pos rfl, show wrap64 ((i : Int) + 1) = ((i + 1 : Nat) : Int) from by rw [w64 (by omega) (by omega)]; omega, ih (i + 1) k' (by omega) (by omega)]; rfl
theorem tright_is (l : List Cell) (hl : l.length ≤ 120) (hv : ∀ x ∈ l, x.f2.f2.length ≤ 50) : P.quiverref09_Right.f 200 l = some (arenaOk l) := by
  unfold P.quiverref09_Right.f arenaOk
  have := tright_l0 l hl hv l.length 0 200 (by omega) (by omega)
  rw [List.drop_zero] at this
  rw [show (0 : Int) = ((0 : Nat) : Int) from rfl, this, Bool.and_comm]
theorem tfree_l0 (l : List Cell) (hl : l.length ≤ 120) : ∀ (d i k : Nat) (n : Nat), i + d = l.length → d < k → n ≤ i →
    P.quiverref09_Free.l0 k (n : Int) (i : Int) l = some (((n + (l.drop i).countP (fun x => !x.f0) : Nat) : Int)) := by
  intro d
  induction d with
  | zero =>
    intro i k n hi hk hn
    obtain ⟨k', rfl⟩ : ∃ k', k = k' + 1 := ⟨k - 1, by omega⟩
    rw [P.quiverref09_Free.l0, if_neg (by omega), List.drop_eq_nil_of_le (by omega)]; rfl
  | succ d ih =>
    intro i k n hi hk hn
    obtain ⟨k', rfl⟩ : ∃ k', k = k' + 1 := ⟨k - 1, by omega⟩
    have hx : P.rd_T36 l (i : Int) = l[i] := cellAt_lt' l i (by omega)
    have e1 : wrap64 ((i : Int) + 1) = ((i + 1 : Nat) : Int) := by rw [w64 (by omega) (by omega)]; omega
    have e2 : wrap64 ((n : Int) + 1) = ((n + 1 : Nat) : Int) := by rw [w64 (by omega) (by omega)]; omega
    rw [P.quiverref09_Free.l0, if_pos (by omega), if_pos (by omega), hx, e1, e2, List.drop_eq_getElem_cons (by omega), List.countP_cons]
    cases hc : l[i].f0 with
    | true => rw [if_pos rfl, ih (i + 1) k' n (by omega) (by omega) (by omega)]; simp
    | false => rw [if_neg (by decide), ih (i + 1) k' (n + 1) (by omega) (by omega) (by omega)]; simp; omega
theorem tfree_is (l : List Cell) (hl : l.length ≤ 120) (h : arenaOk l = true) : P.quiverref09_Free.f 200 l = some (freeN l) := by
  have h96 : l.length = 96 := by
    unfold arenaOk at h
    rw [Bool.and_eq_true] at h
    exact of_decide_eq_true h.1
  have e := tfree_l0 l hl l.length 0 200 0 (by omega) (by omega) (by omega)
  unfold P.quiverref09_Free.f freeN
  rw [show (0 : Int) = ((0 : Nat) : Int) from rfl, e, if_pos h, ← usedL_len', usedL_is', List.drop_zero]
  have := List.length_eq_countP_add_countP (fun x : Cell => x.f0) (l := l)
  rw [← List.countP_eq_length_filter]
  congr 1
  have e2 : l.countP (fun a => decide ¬a.f0 = true) = l.countP (fun x => !x.f0) := by
    congr 1; funext x; cases x.f0 <;> rfl
  omega
/-- Who is looked for alone. -/
theorem filter_insR {α : Type} {lt : α → α → Bool} (h : SO lt) (q : α → Bool) (y : α) (Z : List α) (hZ : Srt lt Z) : (insR lt y Z).filter q = if q y = true then insR lt y (Z.filter q) else Z.filter q := by
  obtain ⟨Z1, Z2, rfl, h1, h2⟩ := srt_parts h y Z hZ
  rw [insR_app y Z1 Z2 h1 h2, List.filter_append, List.filter_append, List.filter_cons]
  cases hq : q y with
  | true =>
    rw [if_pos rfl, if_pos rfl, insR_app y _ _ (fun z hz => h1 z (List.mem_filter.mp hz).1) (fun z hz => h2 z (List.mem_filter.mp hz).1)]
  | false => simp
theorem filter_isort {α : Type} {lt : α → α → Bool} (h : SO lt) (q : α → Bool) (l : List α) : (isort lt l).filter q = isort lt (l.filter q) :=
  snoc_ind (P := fun l => (isort lt l).filter q = isort lt (l.filter q)) rfl (fun l y ih => by
    rw [isort_snoc, filter_insR h q y _ (isort_sorted h l), List.filter_append, ih]
    cases hq : q y with
    | true => simp only [if_true, List.filter_cons, hq, List.filter_nil]; rw [isort_snoc]
    | false => simp [hq]) l
theorem insR_map {α β : Type} {lt : α → α → Bool} {lt' : β → β → Bool} (f : α → β) (y : α) (Z : List α) (h : ∀ z ∈ Z, lt' (f y) (f z) = lt y z) : (insR lt y Z).map f = insR lt' (f y) (Z.map f) := by
  have key : ∀ W : List α, (∀ z ∈ W, lt' (f y) (f z) = lt y z) → (insRr lt y W).map f = insRr lt' (f y) (W.map f) := by
    intro W
    induction W with
    | nil => intro _; rfl
    | cons w W ih =>
      intro hw
      rw [insRr, List.map_cons, insRr, hw w (by simp)]
      split
      · rw [List.map_cons, ih (fun z hz => hw z (by simp [hz]))]
      · rfl
  unfold insR
  rw [List.map_reverse, key _ (fun z hz => h z (List.mem_reverse.mp hz)), List.map_reverse]
theorem isort_map {α β : Type} {lt : α → α → Bool} {lt' : β → β → Bool} (f : α → β) (l : List α) : (∀ x ∈ l, ∀ z ∈ l, lt' (f x) (f z) = lt x z) → (isort lt l).map f = isort lt' (l.map f) :=
  snoc_ind (P := fun l => (∀ x ∈ l, ∀ z ∈ l, lt' (f x) (f z) = lt x z) → (isort lt l).map f = isort lt' (l.map f)) (fun _ => rfl) (fun l y ih h => by
    rw [isort_snoc, List.map_append, insR_map f y _ (fun z hz => h y (by simp) z (by simp [(isort_perm (lt := lt) l).mem_iff.mp hz])), ih (fun x hx z hz => h x (by simp [hx]) z (by simp [hz]))]
    show _ = isort lt' (l.map f ++ [f y])
    rw [isort_snoc]) l
theorem so_P : SO ltP := ⟨fun x y h => so_R.asym _ _ h, fun x y z h k => so_R.tr _ _ _ h k⟩
/-- A row's slots stand in the order of all the slots. -/
theorem of_is (l : List Cell) (id : Int) : ofL l id = ((prL l l.length).filter (fun p => decide (p.1.f1 = id))).map (fun p => (p.2 : Int)) := by
  unfold prL
  rw [filter_isort so_P]
  rw [isort_map (lt' := lt_i (cfO l)) (fun p : Cell × Nat => (p.2 : Int)) _ (fun x hx z hz => by
    obtain ⟨hx1, hx2⟩ := List.mem_filter.mp hx
    obtain ⟨hz1, hz2⟩ := List.mem_filter.mp hz
    obtain ⟨k, _, rfl⟩ := List.mem_map.mp hx1
    obtain ⟨m, _, rfl⟩ := List.mem_map.mp hz1
    have hx2 := of_decide_eq_true hx2
    have hz2 := of_decide_eq_true hz2
    simp only at hx2 hz2
    unfold lt_i ltP lt_c cfO cfR
    simp only [Int.toNat_natCast]
    rw [hx2, hz2, show sgn id id = 0 by unfold sgn; simp]
    simp)]
  unfold ofL ofI
  congr 1
  rw [List.filter_map, List.map_map]
  rfl
/-- One step of the law's last loop. -/
theorem tell_hit (l : List Cell) (id : Int) (i : Nat) (hi : i < (prC l l.length).length) (n : Nat) (hn : n = (((prL l l.length).take i).filter (fun p => decide (p.1.f1 = id))).length) (h : (cellAt (prC l l.length) i).f1 = id) :
    n < (ofL l id).length ∧ rd (ofL l id) (n : Int) = rd (prK l l.length) (i : Int) ∧ n + 1 = (((prL l l.length).take (i + 1)).filter (fun p => decide (p.1.f1 = id))).length := by
  have hi' : i < (prL l l.length).length := by unfold prC at hi; rwa [List.length_map] at hi
  have hc : cellAt (prC l l.length) i = (prL l l.length)[i].1 := by
    rw [cellAt_lt' _ _ hi]; exact List.getElem_map Prod.fst
  rw [hc] at h
  have e : prL l l.length = (prL l l.length).take i ++ (prL l l.length)[i] :: (prL l l.length).drop (i + 1) := by
    rw [← List.drop_eq_getElem_cons hi', List.take_append_drop]
  have e2 : (prL l l.length).filter (fun p => decide (p.1.f1 = id)) = ((prL l l.length).take i).filter (fun p => decide (p.1.f1 = id)) ++ (prL l l.length)[i] :: ((prL l l.length).drop (i + 1)).filter (fun p => decide (p.1.f1 = id)) := by
    conv => lhs; rw [e]
    rw [List.filter_append, List.filter_cons, if_pos (decide_eq_true h)]
  have e3 : ofL l id = (((prL l l.length).take i).filter (fun p => decide (p.1.f1 = id))).map (fun p => (p.2 : Int)) ++ ((prL l l.length)[i].2 : Int) :: (((prL l l.length).drop (i + 1)).filter (fun p => decide (p.1.f1 = id))).map (fun p => (p.2 : Int)) := by
    rw [of_is, e2, List.map_append, List.map_cons]
  refine ⟨by rw [e3]; simp; omega, ?_, ?_⟩
  · rw [e3, rd_nat, getD_mid _ _ _ _ n (by rw [List.length_map]; exact hn), rd_nat, getD_lt _ _ (by unfold prK; rw [List.length_map]; exact hi')]
    unfold prK; rw [List.getElem_map]
  · rw [List.take_succ_eq_append_getElem hi', List.filter_append, List.length_append, ← hn, List.filter_cons, if_pos (decide_eq_true h)]; rfl
theorem tell_miss (l : List Cell) (id : Int) (i : Nat) (hi : i < (prC l l.length).length) (h : ¬ (cellAt (prC l l.length) i).f1 = id) :
    (((prL l l.length).take (i + 1)).filter (fun p => decide (p.1.f1 = id))).length = (((prL l l.length).take i).filter (fun p => decide (p.1.f1 = id))).length := by
  have hi' : i < (prL l l.length).length := by unfold prC at hi; rwa [List.length_map] at hi
  have hc : cellAt (prC l l.length) i = (prL l l.length)[i].1 := by
    rw [cellAt_lt' _ _ hi]; exact List.getElem_map Prod.fst
  rw [hc] at h
  rw [List.take_succ_eq_append_getElem hi', List.filter_append, List.length_append, List.filter_cons, if_neg (by simpa using h)]; rfl
theorem tell_end (l : List Cell) (id : Int) : (ofL l id).length = (((prL l l.length).take (prC l l.length).length).filter (fun p => decide (p.1.f1 = id))).length := by
  rw [of_is, List.length_map, List.take_of_length_le (by unfold prC; rw [List.length_map]; exact Nat.le_refl _)]
theorem ext_self (l m : List Cell) (h : l = m) : eqCells l m = true := by
  subst h
  unfold eqCells
  rw [decide_eq_true rfl, Bool.true_and]
  exact List.all_eq_true.mpr (fun k _ => by unfold sameC; simp)
end

section
set_option maxRecDepth 100000 in
set_option maxHeartbeats 16000000 in
theorem tells_all (A0 : Option Addr) (c0 : Nat) (l0 : List Cell) (A1 : Option Addr) (c1 : Nat) (l1 : List Cell) (id : Int) (w : World) (hc0 : l0.length ≤ c0) (hr0 : Kd.C kC w A0 l0.length l0) (hc1 : l1.length ≤ c1) (hr1 : Kd.C kC w A1 l1.length l1) :
    Calls Try.prog 6 #[.agg #[.slice A0 l0.length c0], .agg #[.slice A1 l1.length c1], .int .u64 id] w fun e w' => e = .returned (.bool true) ∧ Below w.heap.size w w' := by
  obtain ⟨ov, hov⟩ := ovr_is l0
  obtain ⟨ou, hou⟩ := ovr_is l1
  obtain ⟨w1, hw1⟩ : ∃ w1, w1 = (w.alloc (.cells #[.slice A0 l0.length c0] 26)).alloc (.cells #[.slice A1 l1.length c1] 26) := ⟨_, rfl⟩
  have hsz : (w.alloc (.cells #[.slice A0 l0.length c0] 26)).heap.size = w.heap.size + 1 := by simp
  have HB1 := Aside0.mk (show Below w.heap.size w w1 by rw [hw1]; exact ((Below.refl _ _).alloc (Nat.le_refl _) _).alloc (by simp) _)
  have HBA := Aside0.mk (show w1.heap[w.heap.size]? = some (.cells #[.slice A0 l0.length c0] 26 (0, 0)) by rw [hw1]; exact (Below.heap_alloc _ _ _ (by simp)).trans (heap_alloc_new w _))
  have HBV := Aside0.mk (show w1.heap[w.heap.size + 1]? = some (.cells #[.slice A1 l1.length c1] 26 (0, 0)) by rw [hw1, ← hsz]; exact heap_alloc_new _ _)
  have HW1 := Aside0.mk hw1
  have HR0 := Aside0.mk hr0
  have HR1 := Aside0.mk hr1
  have HC0 := Aside0.mk hc0
  have HC1 := Aside0.mk hc1
  have HOV := Aside0.mk hov
  have HOU := Aside0.mk hou
  clear hr0 hr1 hc0 hc1 hov hou hw1 hsz
  go_enter Try.func6, Try.ntmps6
  go_upto_region 1 with (fail)
  rw [← HW1.out]
  go_wp2_with fail
  refine (P.quiverlaw09_wakes.calls true w1 P.quiverlaw09_wakes.is).mono ?_
  rintro e1 w2 ⟨rfl, hd⟩
  have HB2 := Aside0.mk (below_step HB1.out hd)
  have HBA2 := Aside0.mk (blk_below HBA.out hd)
  have HBV2 := Aside0.mk (blk_below HBV.out hd)
  have q0 : w2.cell? ⟨w.heap.size, 0, none⟩ = some (.slice A0 l0.length c0) := (blk_cell HBA2.out 0).trans rfl
  clear hd
  go_wp2_with fail
  refine (P.quiverlaw09_over.calls 200 A0 c0 l0 ov w2 (Kd.C_below HR0.out HB2.out) HC0.out HOV.out).mono ?_
  rintro e1 w3 ⟨rfl, hd⟩
  have HB3 := Aside0.mk (below_step HB2.out hd)
  have HBA3 := Aside0.mk (blk_below HBA2.out hd)
  have HBV3 := Aside0.mk (blk_below HBV2.out hd)
  have q0 : w3.cell? ⟨w.heap.size + 1, 0, none⟩ = some (.slice A1 l1.length c1) := (blk_cell HBV3.out 0).trans rfl
  clear hd
  cases ov with
  | true =>
    go_wp2_with fail
    go_returns
    exact ⟨rfl, HB3.out⟩
  | false =>
  go_wp2_with fail
  refine (P.quiverlaw09_over.calls 200 A1 c1 l1 ou w3 (Kd.C_below HR1.out HB3.out) HC1.out HOU.out).mono ?_
  rintro e1 w4 ⟨rfl, hd⟩
  have HB4 := Aside0.mk (below_step HB3.out hd)
  have HBA4 := Aside0.mk (blk_below HBA3.out hd)
  have HBV4 := Aside0.mk (blk_below HBV3.out hd)
  have q0 : w4.cell? ⟨w.heap.size, 0, none⟩ = some (.slice A0 l0.length c0) := (blk_cell HBA4.out 0).trans rfl
  clear hd
  cases ou with
  | true =>
    go_wp2_with fail
    go_returns
    exact ⟨rfl, HB4.out⟩
  | false =>
  have hb0 := tov_no l0 HOV.out
  have HV0 := Aside0.mk hb0
  have hl120 := hb0.1
  clear hb0
  obtain ⟨ck, hck⟩ : ∃ ck : Int, arena_Check.f l0 = some ck := ⟨_, rfl⟩
  have HCK := Aside0.mk hck
  clear hck
  go_wp2_with fail
  refine (arena_Check.calls A0 c0 l0 ck w4 (Kd.C_below HR0.out HB4.out) HC0.out HCK.out).mono ?_
  rintro e1 w5 ⟨rfl, hd⟩
  have HB5 := Aside0.mk (below_step HB4.out hd)
  have HBA5 := Aside0.mk (blk_below HBA4.out hd)
  have HBV5 := Aside0.mk (blk_below HBV4.out hd)
  have q0 : w5.cell? ⟨w.heap.size, 0, none⟩ = some (.slice A0 l0.length c0) := (blk_cell HBA5.out 0).trans rfl
  clear hd
  obtain ⟨⟨os, oe⟩, hof⟩ : ∃ r : List Int × Int, arena_Of.f l0 id = r := ⟨_, rfl⟩
  have HOF := Aside0.mk hof
  clear hof
  go_wp2_with fail
  refine (arena_Of.calls A0 c0 l0 id os oe w5 (Kd.C_below HR0.out HB5.out) HC0.out HOF.out).mono ?_
  rintro e1 w6 ⟨A6, c6, rfl, hl6, hC6, hd⟩
  have HB6 := Aside0.mk (below_step HB5.out hd)
  have HBA6 := Aside0.mk (blk_below HBA5.out hd)
  have HBV6 := Aside0.mk (blk_below HBV5.out hd)
  have HO6 := Aside0.mk hC6
  have q0 : w6.cell? ⟨w.heap.size, 0, none⟩ = some (.slice A0 l0.length c0) := (blk_cell HBA6.out 0).trans rfl
  clear hd hC6 hl6
  obtain ⟨⟨rs, re⟩, hrf⟩ : ∃ r : List Cell × Int, arena_ByRowsA.f l0 = some r := by unfold arena_ByRowsA.f; split <;> exact ⟨_, rfl⟩
  have HRF := Aside0.mk hrf
  clear hrf
  go_wp2_with fail
  refine (arena_ByRowsA.calls (fun _ => True) A0 c0 l0 rs re w6 (V_of_C (Kd.C_below HR0.out HB6.out) HC0.out) HRF.out).mono ?_
  rintro e1 w7 ⟨v0_, rfl, hN, hd⟩
  obtain ⟨A7, c7, rfl, hc7, hC7⟩ := Kd.N_reads hN
  have HB7 := Aside0.mk (below_step HB6.out hd)
  have HBA7 := Aside0.mk (blk_below HBA6.out hd)
  have HBV7 := Aside0.mk (blk_below HBV6.out hd)
  have HO7 := Aside0.mk (Kd.C_below HO6.out hd)
  have HR7 := Aside0.mk hC7
  have HL7 := Aside0.mk hc7
  have q0 : w7.cell? ⟨w.heap.size, 0, none⟩ = some (.slice A0 l0.length c0) := (blk_cell HBA7.out 0).trans rfl
  have q1 : w7.cell? ⟨w.heap.size + 1, 0, none⟩ = some (.slice A1 l1.length c1) := (blk_cell HBV7.out 0).trans rfl
  clear hd hN hC7 hc7
  have HQ0 := Aside0.mk (show Kd.C kC w7 A0 l0.length l0 from Kd.C_below HR0.out HB7.out)
  have HQ1 := Aside0.mk (show Kd.C kC w7 A1 l1.length l1 from Kd.C_below HR1.out HB7.out)
  have HS1 := Aside0.mk (fun W (h : Below w7.heap.size w7 W) => arena_Same.calls A0 c0 l0 A1 c1 l1 (eqCells l0 l1) W (Kd.C_below HQ0.out h) HC0.out (Kd.C_below HQ1.out h) HC1.out rfl)
  have HS2 := Aside0.mk (fun W (h : Below w7.heap.size w7 W) => refSame.calls A0 c0 l0 A1 c1 l1 (eqCells l0 l1) W (Kd.C_below HQ0.out h) HC0.out (Kd.C_below HQ1.out h) HC1.out rfl)
  have HS3 := Aside0.mk (fun W (h : Below w7.heap.size w7 W) => arena_Same.calls A0 c0 l0 A0 c0 l0 true W (Kd.C_below HQ0.out h) HC0.out (Kd.C_below HQ0.out h) HC0.out (by unfold arena_Same.f; rw [ext_self l0 l0 rfl]))
  generalize eqCells l0 l1 = sm at *
  have hss : (sm != sm) = false := by cases sm <;> rfl
  obtain ⟨z96, hz96⟩ : ∃ z96, z96 = List.replicate 96 zC := ⟨_, rfl⟩
  have HZ1 := Aside0.mk (show P.arena_New.f = some z96 by rw [hz96]; rfl)
  have HZ2 := Aside0.mk (show P.quiverref09_New.f = some z96 by rw [hz96]; rfl)
  clear hz96
  go_upto_region 8 with (fail)
  go_region_held3 (fun w' => w'.cell? ⟨w.heap.size, 0, none⟩ = some (.slice A0 l0.length c0) ∧ w'.cell? ⟨w.heap.size + 1, 0, none⟩ = some (.slice A1 l1.length c1)) (go_keep)
    (first
      | (go_at_call_of 24 (Value.agg #[.slice A1 l1.length c1]); refine (HS1.out _ (by (first | exact hb53 | exact below_drew1 hb53 | exact hb52 | exact below_drew1 hb52 | exact hb48 | exact below_drew1 hb48 | exact hb43 | exact below_drew1 hb43 | exact hb40 | exact below_drew1 hb40 | exact Below.refl _ _ | exact below_drew1 (Below.refl _ _)))).mono ?_; rintro e40 w40' ⟨rfl, hd⟩; have hb40 : Below w7.heap.size w7 w40' := (below_step (by (first | exact hb53 | exact below_drew1 hb53 | exact hb52 | exact below_drew1 hb52 | exact hb48 | exact below_drew1 hb48 | exact hb43 | exact below_drew1 hb43 | exact hb40 | exact below_drew1 hb40 | exact Below.refl _ _ | exact below_drew1 (Below.refl _ _))) hd); have k40 : w40'.cell? ⟨w.heap.size, 0, none⟩ = some (.slice A0 l0.length c0) := (blk_cell (blk_below HBA7.out hb40) 0).trans rfl; have j40 : w40'.cell? ⟨w.heap.size + 1, 0, none⟩ = some (.slice A1 l1.length c1) := (blk_cell (blk_below HBV7.out hb40) 0).trans rfl; clear hd)
      | (go_at_call 14; refine (HS2.out _ (by (first | exact hb53 | exact below_drew1 hb53 | exact hb52 | exact below_drew1 hb52 | exact hb48 | exact below_drew1 hb48 | exact hb43 | exact below_drew1 hb43 | exact hb40 | exact below_drew1 hb40 | exact Below.refl _ _ | exact below_drew1 (Below.refl _ _)))).mono ?_; rintro e43 w43' ⟨rfl, hd⟩; have hb43 : Below w7.heap.size w7 w43' := (below_step (by (first | exact hb53 | exact below_drew1 hb53 | exact hb52 | exact below_drew1 hb52 | exact hb48 | exact below_drew1 hb48 | exact hb43 | exact below_drew1 hb43 | exact hb40 | exact below_drew1 hb40 | exact Below.refl _ _ | exact below_drew1 (Below.refl _ _))) hd); have k43 : w43'.cell? ⟨w.heap.size, 0, none⟩ = some (.slice A0 l0.length c0) := (blk_cell (blk_below HBA7.out hb43) 0).trans rfl; have j43 : w43'.cell? ⟨w.heap.size + 1, 0, none⟩ = some (.slice A1 l1.length c1) := (blk_cell (blk_below HBV7.out hb43) 0).trans rfl; clear hd)
      | (go_at_call_of 24 (Value.agg #[.slice A0 l0.length c0]); refine (HS3.out _ (by (first | exact hb53 | exact below_drew1 hb53 | exact hb52 | exact below_drew1 hb52 | exact hb48 | exact below_drew1 hb48 | exact hb43 | exact below_drew1 hb43 | exact hb40 | exact below_drew1 hb40 | exact Below.refl _ _ | exact below_drew1 (Below.refl _ _)))).mono ?_; rintro e48 w48' ⟨rfl, hd⟩; have hb48 : Below w7.heap.size w7 w48' := (below_step (by (first | exact hb53 | exact below_drew1 hb53 | exact hb52 | exact below_drew1 hb52 | exact hb48 | exact below_drew1 hb48 | exact hb43 | exact below_drew1 hb43 | exact hb40 | exact below_drew1 hb40 | exact Below.refl _ _ | exact below_drew1 (Below.refl _ _))) hd); have k48 : w48'.cell? ⟨w.heap.size, 0, none⟩ = some (.slice A0 l0.length c0) := (blk_cell (blk_below HBA7.out hb48) 0).trans rfl; have j48 : w48'.cell? ⟨w.heap.size + 1, 0, none⟩ = some (.slice A1 l1.length c1) := (blk_cell (blk_below HBV7.out hb48) 0).trans rfl; clear hd)
      | (go_at_call 25; refine (P.arena_New.calls z96 _ HZ1.out).mono ?_; rintro e52 w52' ⟨v52, rfl, hN, hd⟩; obtain ⟨A52, c52, rfl, hc52, hC52⟩ := Kd.N_reads (Kd.S_N hN); have hb52 : Below w7.heap.size w7 w52' := (below_step (by (first | exact hb53 | exact below_drew1 hb53 | exact hb52 | exact below_drew1 hb52 | exact hb48 | exact below_drew1 hb48 | exact hb43 | exact below_drew1 hb43 | exact hb40 | exact below_drew1 hb40 | exact Below.refl _ _ | exact below_drew1 (Below.refl _ _))) hd); have k52 : w52'.cell? ⟨w.heap.size, 0, none⟩ = some (.slice A0 l0.length c0) := (blk_cell (blk_below HBA7.out hb52) 0).trans rfl; have j52 : w52'.cell? ⟨w.heap.size + 1, 0, none⟩ = some (.slice A1 l1.length c1) := (blk_cell (blk_below HBV7.out hb52) 0).trans rfl; clear hd hN)
      | (go_at_call 11; refine (P.quiverref09_New.calls z96 _ HZ2.out).mono ?_; rintro e53 w53' ⟨v53, rfl, hN, hd⟩; obtain ⟨A53, c53, rfl, hc53, hC53⟩ := Kd.N_reads (Kd.S_N hN); have hC52' := Kd.C_below hC52 hd; have hb53 : Below w7.heap.size w7 w53' := (below_step (by (first | exact hb53 | exact below_drew1 hb53 | exact hb52 | exact below_drew1 hb52 | exact hb48 | exact below_drew1 hb48 | exact hb43 | exact below_drew1 hb43 | exact hb40 | exact below_drew1 hb40 | exact Below.refl _ _ | exact below_drew1 (Below.refl _ _))) hd); have k53 : w53'.cell? ⟨w.heap.size, 0, none⟩ = some (.slice A0 l0.length c0) := (blk_cell (blk_below HBA7.out hb53) 0).trans rfl; have j53 : w53'.cell? ⟨w.heap.size + 1, 0, none⟩ = some (.slice A1 l1.length c1) := (blk_cell (blk_below HBV7.out hb53) 0).trans rfl; clear hd hN)
      | (go_at_call 24; refine (arena_Same.calls A52 c52 z96 A53 c53 z96 true _ hC52' hc52 hC53 hc53 (by unfold arena_Same.f; rw [ext_self z96 z96 rfl])).mono ?_; rintro e54 w54' ⟨rfl, hd⟩; have hb54 : Below w7.heap.size w7 w54' := (below_step (by (first | exact hb53 | exact below_drew1 hb53 | exact hb52 | exact below_drew1 hb52 | exact hb48 | exact below_drew1 hb48 | exact hb43 | exact below_drew1 hb43 | exact hb40 | exact below_drew1 hb40 | exact Below.refl _ _ | exact below_drew1 (Below.refl _ _))) hd); have k54 : w54'.cell? ⟨w.heap.size, 0, none⟩ = some (.slice A0 l0.length c0) := (blk_cell (blk_below HBA7.out hb54) 0).trans rfl; have j54 : w54'.cell? ⟨w.heap.size + 1, 0, none⟩ = some (.slice A1 l1.length c1) := (blk_cell (blk_below HBV7.out hb54) 0).trans rfl; clear hd))
  obtain ⟨wv, hwv⟩ : ∃ wv, wv = w54' := ⟨_, rfl⟩
  rw [← hwv] at hb54 ⊢
  have HBv := Aside0.mk (below_step HB7.out hb54)
  have HBAv := Aside0.mk (blk_below HBA7.out hb54)
  have HOv := Aside0.mk (Kd.C_below HO7.out hb54)
  have HRv := Aside0.mk (Kd.C_below HR7.out hb54)
  have HLv := Aside0.mk (Kd.C_below HQ0.out hb54)
  have q0 : wv.cell? ⟨w.heap.size, 0, none⟩ = some (.slice A0 l0.length c0) := (blk_cell HBAv.out 0).trans rfl
  clear hwv hb54 k54 j54 hb53 k53 j53 hb52 k52 j52 hb48 k48 j48 hb43 k43 j43 hb40 k40 j40 hC52 hC53 hC52' hc52 hc53 HS1 HS2 HS3 HQ0 HQ1 HBA7 HBV7 HB7 HO7 HR7 HBV6 HBA6 HB6 HO6 HBA5 HBV5 HB5 HZ1 HZ2 hss q1
  go_wp2_with fail
  refine (P.quiverref09_Right.calls 200 A0 c0 l0 (arenaOk l0) wv HLv.out HC0.out (tright_is l0 HV0.out.1 HV0.out.2)).mono ?_
  rintro e9 w8 ⟨rfl, hd⟩
  have HB8 := Aside0.mk (below_step HBv.out hd)
  have HBA8 := Aside0.mk (blk_below HBAv.out hd)
  have HO8 := Aside0.mk (Kd.C_below HOv.out hd)
  have HR8 := Aside0.mk (Kd.C_below HRv.out hd)
  have HL8 := Aside0.mk (Kd.C_below HLv.out hd)
  have q0 : w8.cell? ⟨w.heap.size, 0, none⟩ = some (.slice A0 l0.length c0) := (blk_cell HBA8.out 0).trans rfl
  clear hd HBv HBAv HOv HRv HLv
  have hck := HCK.out
  have hof := HOF.out
  have hrf := HRF.out
  unfold arena_Check.f at hck
  unfold arena_Of.f at hof
  unfold arena_ByRowsA.f at hrf
  have hfr : arena_Free.f l0 = some (freeN l0) := rfl
  cases hok : arenaOk l0 with
  | false =>
    rw [hok] at hck hof hrf
    simp only [Bool.false_eq_true, if_false, Option.some.injEq, Prod.mk.injEq] at hck hof hrf
    obtain ⟨rfl, rfl⟩ := hof
    obtain ⟨rfl, rfl⟩ := hrf
    subst hck
    have hfz : freeN l0 = 0 := by unfold freeN; rw [hok]; rfl
    rw [hfz] at hfr
    have HFC := Aside0.mk (arena_Free.calls A0 c0 l0 0 w8 HL8.out HC0.out hfr)
    clear hok hfr hfz
    go_wp2_with fail
    refine HFC.out.mono ?_
    rintro e9 w9 ⟨rfl, hd⟩
    have HB9 := Aside0.mk (below_step HB8.out hd)
    clear hd
    go_wp2_with fail
    go_returns
    exact ⟨rfl, HB9.out⟩
  | true =>
    rw [hok] at hck hof hrf
    simp only [if_true, Option.some.injEq, Prod.mk.injEq] at hck hof hrf
    obtain ⟨rfl, rfl⟩ := hof
    obtain ⟨hrs, rfl⟩ := hrf
    subst hck
    have HRB := Aside0.mk (refRows.calls A0 c0 l0 w8 HL8.out HC0.out (by omega))
    have HEQ := Aside0.mk (show rs = prC l0 l0.length by rw [prC_is]; exact hrs.symm)
    have HFRE := Aside0.mk (tfree_is l0 HV0.out.1 hok)
    have HFR := Aside0.mk hfr
    have HTE := Aside0.mk (tell_end l0 id)
    have HTH := Aside0.mk (tell_hit l0 id)
    have HTM := Aside0.mk (tell_miss l0 id)
    have HPL := Aside0.mk (pr_len l0 l0.length)
    clear hok hrs hfr
    go_wp2_with fail
    refine HRB.out.mono ?_
    rintro e9 w9 ⟨A10, c10, A11, c11, rfl, hC10, hC11, hd⟩
    have HB9 := Aside0.mk (below_step HB8.out hd)
    have HBA9 := Aside0.mk (blk_below HBA8.out hd)
    have HO9 := Aside0.mk (Kd.C_below HO8.out hd)
    have HR9 := Aside0.mk (Kd.C_below HR8.out hd)
    have HL9 := Aside0.mk (Kd.C_below HL8.out hd)
    have HP9 := Aside0.mk hC10
    have HK9 := Aside0.mk hC11
    have q0 : w9.cell? ⟨w.heap.size, 0, none⟩ = some (.slice A0 l0.length c0) := (blk_cell HBA9.out 0).trans rfl
    have Q0 := fun p => Gr.cell q0 p
    have HSC := Aside0.mk (fun (p : Gr w9) => refSameCells A7 c7 rs A10 c10 (prC l0 l0.length) p.w (Kd.C_below HR9.out p.h) (Kd.C_below HP9.out p.h))
    rw [ext_self rs (prC l0 l0.length) HEQ.out] at HSC
    have HFC := Aside0.mk (fun (p : Gr w9) => arena_Free.calls A0 c0 l0 (freeN l0) p.w (Kd.C_below HL9.out p.h) HC0.out HFR.out)
    have HFE := Aside0.mk (fun (p : Gr w9) => P.quiverref09_Free.calls 200 A0 c0 l0 (freeN l0) p.w (Kd.C_below HL9.out p.h) HC0.out HFRE.out)
    have hff : (freeN l0 != freeN l0) = false := by simp
    clear hd hC10 hC11 HO8 HR8 HL8 HBA8 HB8 HRB
    go_wp2_with fail
    refine wp_region_gr (by kernel_rfl) (by kernel_rfl) ?_
    repeat (go_big_quiet_step (first | (go_at_call 28; exact Calls.gr_of (HSC.out _)) | (go_at_call 17; exact Calls.gr_of (HFC.out _)) | (go_at_call 29; exact Calls.gr_of (HFE.out _))))
    refine wpQuiet_nil ?_
    intro w10 hw'
    have hb10 : Below w9.heap.size w9 w10 := by obtain ⟨p, rfl⟩ := hw'; exact p.h
    have HB10 := Aside0.mk (below_step HB9.out hb10)
    have HO10 := Aside0.mk (Kd.C_below HO9.out hb10)
    have HP10 := Aside0.mk (Kd.C_below HP9.out hb10)
    have HK10 := Aside0.mk (Kd.C_below HK9.out hb10)
    clear hw' hb10 Q0 q0 HSC HFC HFE hff HB9 HBA9 HO9 HR9 HL9 HP9 HK9 HEQ
    have hmx := Kd.C_max HP10.out
    have hmo := Kd.C_max HO10.out
    have hpl := HPL.out
    obtain ⟨F, hF⟩ : ∃ F : Nat → Nat, F = fun i => (((prL l0 l0.length).take i).filter (fun p => decide (p.1.f1 = id))).length := ⟨_, rfl⟩
    have HTE2 := Aside0.mk (show (ofL l0 id).length = F (prC l0 l0.length).length by rw [hF]; exact HTE.out)
    have HTH2 := Aside0.mk (fun i hi n (hn : n = F i) h => (show n < (ofL l0 id).length ∧ rd (ofL l0 id) (n : Int) = rd (prK l0 l0.length) (i : Int) ∧ n + 1 = F (i + 1) by rw [hF] at hn ⊢; exact HTH.out i hi n hn h))
    have HTM2 := Aside0.mk (fun i hi h => (show F (i + 1) = F i by rw [hF]; exact HTM.out i hi h))
    have HF0 := Aside0.mk (show 0 = F 0 by rw [hF]; rfl)
    clear hF HTE HTH HTM HPL
    generalize prC l0 l0.length = Z at *
    generalize prK l0 l0.length = ZK at *
    generalize ofL l0 id = os at *
    go_wp2_with fail
    go_loopg [14, 115] Z.length (fun gg v14 v115 wr => ∃ (i n : Nat), v115 = .int .i64 (i : Int) ∧ v14 = .int .i64 (n : Int) ∧ i ≤ Z.length ∧ Z.length - i ≤ gg ∧ n ≤ i ∧ Aside0 (n = F i) ∧ Aside0 (Below w10.heap.size w10 wr))
    case atStart => exact ⟨0, 0, rfl, rfl, by omega, by omega, by omega, HF0, ⟨Below.refl _ _⟩⟩
    case round =>
      obtain ⟨i, n, rfl, rfl, hi0, hg, hni, HN, HBi⟩ := hrel
      by_cases hlt : i < Z.length
      · have hltz : (i : Int) < (Z.length : Int) := by omega
        obtain ⟨ad, Ax, cx, hA, x0, x1, x2, x3, x4, hlx, hCx⟩ := P.at_T36 (Kd.C_below HP10.out HBi.out) (i : Int) (by omega) (by omega)
        subst hA
        simp only [Int.toNat_natCast] at x0 x1 x2 x3 x4
        have HHIT := Aside0.mk (fun h => HTH2.out i hlt n HN.out h)
        have HMISS := Aside0.mk (fun h => HTM2.out i hlt h)
        have HAT := Aside0.mk (show P.rd_T36 Z (i : Int) = cellAt Z i from rfl)
        rw [HAT.out] at x0 x1 x2 x3 x4
        have hblk := World.block_lt_of_cell? wr _ x0
        generalize cellAt Z i = x at *
        have HBW := Aside0.mk (fun o => below_step HBi.out ((Below.refl wr.heap.size wr).alloc (Nat.le_refl _) o))
        by_cases hid : x.f1 = id
        · obtain ⟨h1, h2, h3⟩ := HHIT.out hid
          have hidb : (x.f1 == id) = true := by rw [hid]; simp
          obtain ⟨bd, hB, y0⟩ := Kd.at_int (Kd.C_below HO10.out HBi.out) (n : Int) (by omega) (by omega)
          obtain ⟨kd, hK, z0⟩ := Kd.at_int (Kd.C_below HK10.out HBi.out) (i : Int) (by omega) (by omega)
          subst hB hK
          simp only [Int.toNat_natCast] at y0 z0
          rw [h2] at y0
          generalize rd ZK (i : Int) = kv at *
          have hge : decide ((n : Int) ≥ (os.length : Int)) = false := decide_eq_false (by omega)
          have hge2 : decide (os.length ≤ n) = false := decide_eq_false (by omega)
          have hge3 : ¬ os.length ≤ n := by omega
          have hlo : (n : Int) < (os.length : Int) := by omega
          have hlz : (i : Int) < (ZK.length : Int) := by omega
          have hkv : (kv != kv) = false := by simp
          have H3 := Aside0.mk h3
          clear h1 h2 h3 hid HHIT HMISS hlx hCx
          go_upto_region 20 with (fail)
          obtain ⟨w11, hw11⟩ : ∃ w11, w11 = wr.alloc (.cells #[.bool x.f0, .int .u64 x.f1, .int .u64 x.f2.f0, .int .u64 x.f2.f1, .slice Ax x.f2.f2.length cx] 36) := ⟨_, rfl⟩
          rw [← hw11]
          have hb11 : Below wr.heap.size wr w11 := by rw [hw11]; exact (Below.refl _ _).alloc (Nat.le_refl _) _
          have hby : bd.block < wr.heap.size := by have := World.block_lt_of_cell? wr _ y0; rwa [block_add] at this
          have hbk : kd.block < wr.heap.size := by have := World.block_lt_of_cell? wr _ z0; rwa [block_add] at this
          have Y0 := fun p => Gr.cell ((hb11.cell (p := bd.add n) (by rw [block_add]; exact hby)).trans y0) p
          have Z0 := fun p => Gr.cell ((hb11.cell (p := kd.add i) (by rw [block_add]; exact hbk)).trans z0) p
          have HB11 := Aside0.mk (below_step HBi.out hb11)
          clear hw11 hb11 y0 z0 x0 x1 x2 x3 x4
          refine wp_region_gr (by kernel_rfl) (by kernel_rfl) ?_
          repeat (go_big_quiet_step (fail))
          refine wpQuiet_nil ?_
          intro w12 hw'
          have HB12 := Aside0.mk (below_step HB11.out (show Below w11.heap.size w11 w12 by obtain ⟨p, rfl⟩ := hw'; exact p.h))
          clear hw' Y0 Z0
          go_wp2_with fail
          go_roundg (Z.length - (i + 1))
          case measure => omega
          case rel => exact ⟨i + 1, n + 1, by go_num, by go_num, by omega, by omega, by omega, H3, HB12⟩
        · have hidb : (x.f1 == id) = false := by rw [beq_eq_false_iff_ne]; exact hid
          have HM := Aside0.mk (HMISS.out hid)
          clear hid HHIT HMISS hlx hCx
          go_wp2_with fail
          go_roundg (Z.length - (i + 1))
          case measure => omega
          case rel => exact ⟨i + 1, n, by go_num, rfl, by omega, by omega, by omega, ⟨by rw [HM.out]; exact HN.out⟩, ⟨HBW.out _⟩⟩
      · have hltz : ¬ (i : Int) < (Z.length : Int) := by omega
        obtain rfl : i = Z.length := by omega
        have hend : n = os.length := by rw [HN.out]; exact HTE2.out.symm
        subst hend
        go_wp2_with fail
        go_returns
        exact ⟨rfl, below_step HB10.out HBi.out⟩

theorem tells_walk (x0 : List Cell) (cs0 : Array Value) (x1 : List Cell) (cs1 : Array Value) (a2 : Int) (w : World)
    (hK0 : (Kd.slice 22 kC).K w x0 cs0.toList) {Wf0 : Prop} (w0 : Wf0) (hK1 : (Kd.slice 22 kC).K w x1 cs1.toList) {Wf1 : Prop} (w1 : Wf1) {Wf2 : Prop} (w2 : Wf2) :
    Calls Try.prog 6 #[.agg cs0, .agg cs1, .int .u64 a2] w fun e w' => e = .returned (.bool true) ∧ Below w.heap.size w w' := by
  obtain ⟨A0, c0, e0, h0, hC0⟩ := hK0
  obtain ⟨A1, c1, e1, h1, hC1⟩ := hK1
  obtain rfl : cs0 = #[.slice A0 x0.length c0] := by apply Array.toList_inj.1; exact e0
  obtain rfl : cs1 = #[.slice A1 x1.length c1] := by apply Array.toList_inj.1; exact e1
  exact tells_all A0 c0 x0 A1 c1 x1 a2 w h0 hC0 h1 hC1
end

end Go.Proofs.Ytoblkjdiahoplaa.G
