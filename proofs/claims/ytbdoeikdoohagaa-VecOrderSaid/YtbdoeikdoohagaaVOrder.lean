/- quiverlaw05.VecOrder answers true, for every row of hits. -/
import Derived.Test.YtbdoeikdoohagaaG14
namespace Go.Proofs.Ytbdoeikdoohagaa.G
open Go.Shelf Go.RowKit Go.Proofs.YtbdoeikdoohagaaW.PrintWords Go.Proofs.YtbdoeikdoohagaaW.PrintLast Go.Proofs.YtbdoeikdoohagaaW.PrintMore
set_option linter.unusedVariables false
set_option linter.unusedSimpArgs false

abbrev kH : Kd (Int × Int) := Kd.pair (Kd.int .u64) (Kd.int .u64)
theorem C_hit {w : World} {A : Option Addr} {l : List (Int × Int)} (h : Kd.C kH w A l.length l) (k : Nat) (hk : k < l.length) :
    ∃ ad, A = some ad ∧ w.cell? (ad.add (k * 2)) = some (.int .u64 (l.getD k (0, 0)).1) ∧ w.cell? ⟨(ad.add (k * 2)).block, (ad.add (k * 2)).off + 1, none⟩ = some (.int .u64 (l.getD k (0, 0)).2) := by
  obtain ⟨_, _, h3⟩ := h
  obtain ⟨ad, e, h4⟩ := h3 (by omega)
  have hx : l[k]? = some (l.getD k (0, 0)) := by rw [List.getElem?_eq_getElem hk, getD_of_lt l k _ hk]
  obtain ⟨cs, hl, ⟨c1, c2, e1, hk1, hk2⟩, hc⟩ := h4 k _ hx
  have e2 : c1 = [.int .u64 (l.getD k (0, 0)).1] := hk1
  have e3 : c2 = [.int .u64 (l.getD k (0, 0)).2] := hk2
  subst e2 e3 e1
  refine ⟨ad, e, ?_, ?_⟩
  · exact hc 0 _ rfl
  · rw [show (⟨(ad.add (k * 2)).block, (ad.add (k * 2)).off + 1, none⟩ : Addr) = (ad.add (k * 2)).add 1 from rfl, add_add]
    exact hc 1 _ rfl
def want (a b : Int × Int) : Int := if a.2 < b.2 then -1 else if b.2 < a.2 then 1 else if a.1 < b.1 then -1 else if b.1 < a.1 then 1 else 0
theorem before_is (a b : Int × Int) : P.quiverref05_Before.f a.1 a.2 b.1 b.2 = some (decide (want a b = -1)) := by
  unfold P.quiverref05_Before.f want
  split
  · simp
  · split
    · split
      · omega
      · by_cases h : a.1 < b.1
        · simp [h]
        · simp [h]; split <;> decide
    · rw [if_pos (by omega)]; simp
theorem before_not (a b : Int × Int) (h : want a b ≠ -1) : P.quiverref05_Before.f b.1 b.2 a.1 a.2 = some (decide (want a b = 1)) := by
  rw [before_is]
  unfold want at *
  congr 2
  rw [eq_iff_iff]
  constructor <;> (repeat' split at *) <;> omega
theorem want_cases (a b : Int × Int) : want a b = -1 ∨ want a b = 1 ∨ want a b = 0 := by unfold want; (repeat' split) <;> simp

theorem vcmp (a b : Int × Int) : P.vec_Compare.f 5 a.1 a.2 b.1 b.2 = some (want a b) := compare_is _ _ _ _

set_option maxHeartbeats 2000000 in
set_option maxRecDepth 100000 in
theorem vecOrder.go (A : Option Addr) (c : Nat) (l : List (Int × Int)) (w : World) (hr : Kd.C kH w A l.length l) (hc : l.length ≤ c) :
    Calls Try.prog 6 #[.slice A l.length c] w fun e w' => e = .returned (.bool true) ∧ Below w.heap.size w w' := by
  have HR := Aside0.mk hr
  have hml := Kd.C_max hr
  have hcz : (l.length : Int) ≤ (c : Int) := by omega
  clear hr
  go_enter Try.func6, Try.ntmps6
  go_wp2_with fail
  refine (wakes05.calls true _ rfl).mono ?_
  rintro e w1 ⟨rfl, hb1⟩
  have HB1 := Aside0.mk hb1
  clear hb1
  obtain ⟨n, hn⟩ : ∃ n, n = if 30 < l.length then 30 else l.length := ⟨_, rfl⟩
  by_cases hbig : 30 < l.length
  · rw [if_pos hbig] at hn
    have hbz : (30 : Int) < (l.length : Int) := by omega
    have h30 : (30 : Int) ≤ (c : Int) := by omega
    clear hn
    go_wp2_with fail
    go_loopg [17] 30 (fun gg s17 wr => ∃ kk : Nat, kk ≤ 30 ∧ 30 - kk ≤ gg ∧ s17 = .int .i64 kk ∧ Aside0 (Below w.heap.size w wr))
    case atStart => exact ⟨0, Nat.zero_le _, by omega, rfl, HB1⟩
    case round =>
      obtain ⟨kk, hkk, hg, rfl, HB⟩ := hrel
      by_cases hlt : kk < 30
      · have hltz : (kk : Int) < 30 := by omega
        obtain ⟨ad, hA, ca0, ca1⟩ := C_hit HR.out kk (by omega)
        subst hA
        replace ca0 := (HB.out.cell (World.block_lt_of_cell? w _ ca0)).trans ca0
        replace ca1 := (HB.out.cell (World.block_lt_of_cell? w _ ca1)).trans ca1
        generalize l.getD kk (0, 0) = a at ca0 ca1
        obtain ⟨wo, rfl⟩ : ∃ wo, wo = wr := ⟨_, rfl⟩
        have HW0 := Aside0.mk (heap_alloc_new wo (.cells #[.int .u64 a.1, .int .u64 a.2] 41))
        have HB2 := Aside0.mk (HB.out.alloc HB.out.size (.cells #[.int .u64 a.1, .int .u64 a.2] 41))
        have HSZ := Aside0.mk HB.out.size
        go_wp2_with fail
        go_loopg [23] 30 (fun gg s23 wr => ∃ jj : Nat, jj ≤ 30 ∧ 30 - jj ≤ gg ∧ s23 = .int .i64 jj ∧ Aside0 (wr.heap[wo.heap.size]? = some (.cells #[.int .u64 a.1, .int .u64 a.2] 41 (0, 0))) ∧ Aside0 (Below w.heap.size w wr))
        case atStart => exact ⟨0, Nat.zero_le _, by omega, rfl, HW0, HB2⟩
        case round =>
          obtain ⟨jj, hjj, hgj, rfl, HW, HBi⟩ := hrel
          by_cases hjt : jj < 30
          · have hjz : (jj : Int) < 30 := by omega
            obtain ⟨ad', hA', cb0, cb1⟩ := C_hit HR.out jj (by omega)
            injection hA' with hA'
            subst hA'
            replace cb0 := (HBi.out.cell (World.block_lt_of_cell? w _ cb0)).trans cb0
            replace cb1 := (HBi.out.cell (World.block_lt_of_cell? w _ cb1)).trans cb1
            generalize l.getD jj (0, 0) = b at cb0 cb1
            have HX := Aside0.mk (blk_alloc HW.out (.cells #[.int .u64 b.1, .int .u64 b.2] 41))
            have HY := Aside0.mk (heap_alloc_new wr (.cells #[.int .u64 b.1, .int .u64 b.2] 41))
            have HBj := Aside0.mk (HBi.out.alloc HBi.out.size (.cells #[.int .u64 b.1, .int .u64 b.2] 41))
            have p0 : (wr.alloc (.cells #[.int .u64 b.1, .int .u64 b.2] 41)).cell? ⟨wo.heap.size, 0, none⟩ = some (.int .u64 a.1) := (blk_cell HX.out 0).trans rfl
            have p1 : (wr.alloc (.cells #[.int .u64 b.1, .int .u64 b.2] 41)).cell? ⟨wo.heap.size, 1, none⟩ = some (.int .u64 a.2) := (blk_cell HX.out 1).trans rfl
            have HC := Aside0.mk (vcmp a b)
            have HF1 := Aside0.mk (before_is a b)
            have HF2 := Aside0.mk (before_not a b)
            rcases want_cases a b with hw | hw | hw
            · rw [hw] at HC HF1 HF2
              go_wp2_with fail
              refine (P.quiverref05_Before.calls a.1 a.2 b.1 b.2 true _ HF1.out).mono ?_
              rintro e w5 ⟨rfl, hb5⟩
              have HX5 := Aside0.mk (blk_below HX.out hb5)
              have HY5 := Aside0.mk (blk_below HY.out hb5)
              have HB5 := Aside0.mk (below_step HBj.out hb5)
              have s0_5 : w5.cell? ⟨wo.heap.size, 0, none⟩ = some (.int .u64 a.1) := (blk_cell HX5.out 0).trans rfl
              have s1_5 : w5.cell? ⟨wo.heap.size, 1, none⟩ = some (.int .u64 a.2) := (blk_cell HX5.out 1).trans rfl
              have r0_5 : w5.cell? ⟨wr.heap.size, 0, none⟩ = some (.int .u64 b.1) := (blk_cell HY5.out 0).trans rfl
              have r1_5 : w5.cell? ⟨wr.heap.size, 1, none⟩ = some (.int .u64 b.2) := (blk_cell HY5.out 1).trans rfl
              clear hb5 p0 p1
              go_wp2_with fail
              refine (P.vec_Compare.calls 5 a.1 a.2 b.1 b.2 (-1) _ HC.out).mono ?_
              rintro e w6 ⟨rfl, hb6⟩
              have HX6 := Aside0.mk (blk_below HX5.out hb6)
              have HB6 := Aside0.mk (below_step HB5.out hb6)
              clear hb6
              go_wp2_with fail
              go_roundg (30 - (jj + 1))
              case measure => omega
              case rel => exact ⟨jj + 1, hjt, by omega, by go_num, HX6, HB6⟩
            · rw [hw] at HC HF1 HF2
              go_wp2_with fail
              refine (P.quiverref05_Before.calls a.1 a.2 b.1 b.2 false _ HF1.out).mono ?_
              rintro e w4 ⟨rfl, hb4⟩
              have HX4 := Aside0.mk (blk_below HX.out hb4)
              have HY4 := Aside0.mk (blk_below HY.out hb4)
              have HB4 := Aside0.mk (below_step HBj.out hb4)
              have s0_4 : w4.cell? ⟨wo.heap.size, 0, none⟩ = some (.int .u64 a.1) := (blk_cell HX4.out 0).trans rfl
              have s1_4 : w4.cell? ⟨wo.heap.size, 1, none⟩ = some (.int .u64 a.2) := (blk_cell HX4.out 1).trans rfl
              have r0_4 : w4.cell? ⟨wr.heap.size, 0, none⟩ = some (.int .u64 b.1) := (blk_cell HY4.out 0).trans rfl
              have r1_4 : w4.cell? ⟨wr.heap.size, 1, none⟩ = some (.int .u64 b.2) := (blk_cell HY4.out 1).trans rfl
              clear hb4 p0 p1
              go_wp2_with fail
              refine (P.quiverref05_Before.calls b.1 b.2 a.1 a.2 true _ (HF2.out (by decide))).mono ?_
              rintro e w5 ⟨rfl, hb5⟩
              have HX5 := Aside0.mk (blk_below HX4.out hb5)
              have HY5 := Aside0.mk (blk_below HY4.out hb5)
              have HB5 := Aside0.mk (below_step HB4.out hb5)
              have s0_5 : w5.cell? ⟨wo.heap.size, 0, none⟩ = some (.int .u64 a.1) := (blk_cell HX5.out 0).trans rfl
              have s1_5 : w5.cell? ⟨wo.heap.size, 1, none⟩ = some (.int .u64 a.2) := (blk_cell HX5.out 1).trans rfl
              have r0_5 : w5.cell? ⟨wr.heap.size, 0, none⟩ = some (.int .u64 b.1) := (blk_cell HY5.out 0).trans rfl
              have r1_5 : w5.cell? ⟨wr.heap.size, 1, none⟩ = some (.int .u64 b.2) := (blk_cell HY5.out 1).trans rfl
              clear hb5 s0_4 s1_4 r0_4 r1_4
              go_wp2_with fail
              refine (P.vec_Compare.calls 5 a.1 a.2 b.1 b.2 1 _ HC.out).mono ?_
              rintro e w6 ⟨rfl, hb6⟩
              have HX6 := Aside0.mk (blk_below HX5.out hb6)
              have HB6 := Aside0.mk (below_step HB5.out hb6)
              clear hb6
              go_wp2_with fail
              go_roundg (30 - (jj + 1))
              case measure => omega
              case rel => exact ⟨jj + 1, hjt, by omega, by go_num, HX6, HB6⟩
            · rw [hw] at HC HF1 HF2
              go_wp2_with fail
              refine (P.quiverref05_Before.calls a.1 a.2 b.1 b.2 false _ HF1.out).mono ?_
              rintro e w4 ⟨rfl, hb4⟩
              have HX4 := Aside0.mk (blk_below HX.out hb4)
              have HY4 := Aside0.mk (blk_below HY.out hb4)
              have HB4 := Aside0.mk (below_step HBj.out hb4)
              have s0_4 : w4.cell? ⟨wo.heap.size, 0, none⟩ = some (.int .u64 a.1) := (blk_cell HX4.out 0).trans rfl
              have s1_4 : w4.cell? ⟨wo.heap.size, 1, none⟩ = some (.int .u64 a.2) := (blk_cell HX4.out 1).trans rfl
              have r0_4 : w4.cell? ⟨wr.heap.size, 0, none⟩ = some (.int .u64 b.1) := (blk_cell HY4.out 0).trans rfl
              have r1_4 : w4.cell? ⟨wr.heap.size, 1, none⟩ = some (.int .u64 b.2) := (blk_cell HY4.out 1).trans rfl
              clear hb4 p0 p1
              go_wp2_with fail
              refine (P.quiverref05_Before.calls b.1 b.2 a.1 a.2 false _ (HF2.out (by decide))).mono ?_
              rintro e w5 ⟨rfl, hb5⟩
              have HX5 := Aside0.mk (blk_below HX4.out hb5)
              have HY5 := Aside0.mk (blk_below HY4.out hb5)
              have HB5 := Aside0.mk (below_step HB4.out hb5)
              have s0_5 : w5.cell? ⟨wo.heap.size, 0, none⟩ = some (.int .u64 a.1) := (blk_cell HX5.out 0).trans rfl
              have s1_5 : w5.cell? ⟨wo.heap.size, 1, none⟩ = some (.int .u64 a.2) := (blk_cell HX5.out 1).trans rfl
              have r0_5 : w5.cell? ⟨wr.heap.size, 0, none⟩ = some (.int .u64 b.1) := (blk_cell HY5.out 0).trans rfl
              have r1_5 : w5.cell? ⟨wr.heap.size, 1, none⟩ = some (.int .u64 b.2) := (blk_cell HY5.out 1).trans rfl
              clear hb5 s0_4 s1_4 r0_4 r1_4
              go_wp2_with fail
              refine (P.vec_Compare.calls 5 a.1 a.2 b.1 b.2 0 _ HC.out).mono ?_
              rintro e w6 ⟨rfl, hb6⟩
              have HX6 := Aside0.mk (blk_below HX5.out hb6)
              have HB6 := Aside0.mk (below_step HB5.out hb6)
              clear hb6
              go_wp2_with fail
              go_roundg (30 - (jj + 1))
              case measure => omega
              case rel => exact ⟨jj + 1, hjt, by omega, by go_num, HX6, HB6⟩
          · obtain rfl : jj = 30 := by omega
            go_wp2_with fail
            go_roundg (30 - (kk + 1))
            case measure => omega
            case rel => exact ⟨kk + 1, hlt, by omega, by go_num, HBi⟩
      · obtain rfl : kk = 30 := by omega
        go_wp2_with fail
        go_returns
        exact ⟨rfl, HB.out⟩
  · have hbz : (l.length : Int) ≤ 30 := by omega
    clear hn hbig
    go_wp2_with fail
    go_loopg [17] l.length (fun gg s17 wr => ∃ kk : Nat, kk ≤ l.length ∧ l.length - kk ≤ gg ∧ s17 = .int .i64 kk ∧ Aside0 (Below w.heap.size w wr))
    case atStart => exact ⟨0, Nat.zero_le _, by omega, rfl, HB1⟩
    case round =>
      obtain ⟨kk, hkk, hg, rfl, HB⟩ := hrel
      by_cases hlt : kk < l.length
      · have hltz : (kk : Int) < (l.length : Int) := by omega
        obtain ⟨ad, hA, ca0, ca1⟩ := C_hit HR.out kk (by omega)
        subst hA
        replace ca0 := (HB.out.cell (World.block_lt_of_cell? w _ ca0)).trans ca0
        replace ca1 := (HB.out.cell (World.block_lt_of_cell? w _ ca1)).trans ca1
        generalize l.getD kk (0, 0) = a at ca0 ca1
        obtain ⟨wo, rfl⟩ : ∃ wo, wo = wr := ⟨_, rfl⟩
        have HW0 := Aside0.mk (heap_alloc_new wo (.cells #[.int .u64 a.1, .int .u64 a.2] 41))
        have HB2 := Aside0.mk (HB.out.alloc HB.out.size (.cells #[.int .u64 a.1, .int .u64 a.2] 41))
        have HSZ := Aside0.mk HB.out.size
        go_wp2_with fail
        go_loopg [23] l.length (fun gg s23 wr => ∃ jj : Nat, jj ≤ l.length ∧ l.length - jj ≤ gg ∧ s23 = .int .i64 jj ∧ Aside0 (wr.heap[wo.heap.size]? = some (.cells #[.int .u64 a.1, .int .u64 a.2] 41 (0, 0))) ∧ Aside0 (Below w.heap.size w wr))
        case atStart => exact ⟨0, Nat.zero_le _, by omega, rfl, HW0, HB2⟩
        case round =>
          obtain ⟨jj, hjj, hgj, rfl, HW, HBi⟩ := hrel
          by_cases hjt : jj < l.length
          · have hjz : (jj : Int) < (l.length : Int) := by omega
            obtain ⟨ad', hA', cb0, cb1⟩ := C_hit HR.out jj (by omega)
            injection hA' with hA'
            subst hA'
            replace cb0 := (HBi.out.cell (World.block_lt_of_cell? w _ cb0)).trans cb0
            replace cb1 := (HBi.out.cell (World.block_lt_of_cell? w _ cb1)).trans cb1
            generalize l.getD jj (0, 0) = b at cb0 cb1
            have HX := Aside0.mk (blk_alloc HW.out (.cells #[.int .u64 b.1, .int .u64 b.2] 41))
            have HY := Aside0.mk (heap_alloc_new wr (.cells #[.int .u64 b.1, .int .u64 b.2] 41))
            have HBj := Aside0.mk (HBi.out.alloc HBi.out.size (.cells #[.int .u64 b.1, .int .u64 b.2] 41))
            have p0 : (wr.alloc (.cells #[.int .u64 b.1, .int .u64 b.2] 41)).cell? ⟨wo.heap.size, 0, none⟩ = some (.int .u64 a.1) := (blk_cell HX.out 0).trans rfl
            have p1 : (wr.alloc (.cells #[.int .u64 b.1, .int .u64 b.2] 41)).cell? ⟨wo.heap.size, 1, none⟩ = some (.int .u64 a.2) := (blk_cell HX.out 1).trans rfl
            have HC := Aside0.mk (vcmp a b)
            have HF1 := Aside0.mk (before_is a b)
            have HF2 := Aside0.mk (before_not a b)
            rcases want_cases a b with hw | hw | hw
            · rw [hw] at HC HF1 HF2
              go_wp2_with fail
              refine (P.quiverref05_Before.calls a.1 a.2 b.1 b.2 true _ HF1.out).mono ?_
              rintro e w5 ⟨rfl, hb5⟩
              have HX5 := Aside0.mk (blk_below HX.out hb5)
              have HY5 := Aside0.mk (blk_below HY.out hb5)
              have HB5 := Aside0.mk (below_step HBj.out hb5)
              have s0_5 : w5.cell? ⟨wo.heap.size, 0, none⟩ = some (.int .u64 a.1) := (blk_cell HX5.out 0).trans rfl
              have s1_5 : w5.cell? ⟨wo.heap.size, 1, none⟩ = some (.int .u64 a.2) := (blk_cell HX5.out 1).trans rfl
              have r0_5 : w5.cell? ⟨wr.heap.size, 0, none⟩ = some (.int .u64 b.1) := (blk_cell HY5.out 0).trans rfl
              have r1_5 : w5.cell? ⟨wr.heap.size, 1, none⟩ = some (.int .u64 b.2) := (blk_cell HY5.out 1).trans rfl
              clear hb5 p0 p1
              go_wp2_with fail
              refine (P.vec_Compare.calls 5 a.1 a.2 b.1 b.2 (-1) _ HC.out).mono ?_
              rintro e w6 ⟨rfl, hb6⟩
              have HX6 := Aside0.mk (blk_below HX5.out hb6)
              have HB6 := Aside0.mk (below_step HB5.out hb6)
              clear hb6
              go_wp2_with fail
              go_roundg (l.length - (jj + 1))
              case measure => omega
              case rel => exact ⟨jj + 1, hjt, by omega, by go_num, HX6, HB6⟩
            · rw [hw] at HC HF1 HF2
              go_wp2_with fail
              refine (P.quiverref05_Before.calls a.1 a.2 b.1 b.2 false _ HF1.out).mono ?_
              rintro e w4 ⟨rfl, hb4⟩
              have HX4 := Aside0.mk (blk_below HX.out hb4)
              have HY4 := Aside0.mk (blk_below HY.out hb4)
              have HB4 := Aside0.mk (below_step HBj.out hb4)
              have s0_4 : w4.cell? ⟨wo.heap.size, 0, none⟩ = some (.int .u64 a.1) := (blk_cell HX4.out 0).trans rfl
              have s1_4 : w4.cell? ⟨wo.heap.size, 1, none⟩ = some (.int .u64 a.2) := (blk_cell HX4.out 1).trans rfl
              have r0_4 : w4.cell? ⟨wr.heap.size, 0, none⟩ = some (.int .u64 b.1) := (blk_cell HY4.out 0).trans rfl
              have r1_4 : w4.cell? ⟨wr.heap.size, 1, none⟩ = some (.int .u64 b.2) := (blk_cell HY4.out 1).trans rfl
              clear hb4 p0 p1
              go_wp2_with fail
              refine (P.quiverref05_Before.calls b.1 b.2 a.1 a.2 true _ (HF2.out (by decide))).mono ?_
              rintro e w5 ⟨rfl, hb5⟩
              have HX5 := Aside0.mk (blk_below HX4.out hb5)
              have HY5 := Aside0.mk (blk_below HY4.out hb5)
              have HB5 := Aside0.mk (below_step HB4.out hb5)
              have s0_5 : w5.cell? ⟨wo.heap.size, 0, none⟩ = some (.int .u64 a.1) := (blk_cell HX5.out 0).trans rfl
              have s1_5 : w5.cell? ⟨wo.heap.size, 1, none⟩ = some (.int .u64 a.2) := (blk_cell HX5.out 1).trans rfl
              have r0_5 : w5.cell? ⟨wr.heap.size, 0, none⟩ = some (.int .u64 b.1) := (blk_cell HY5.out 0).trans rfl
              have r1_5 : w5.cell? ⟨wr.heap.size, 1, none⟩ = some (.int .u64 b.2) := (blk_cell HY5.out 1).trans rfl
              clear hb5 s0_4 s1_4 r0_4 r1_4
              go_wp2_with fail
              refine (P.vec_Compare.calls 5 a.1 a.2 b.1 b.2 1 _ HC.out).mono ?_
              rintro e w6 ⟨rfl, hb6⟩
              have HX6 := Aside0.mk (blk_below HX5.out hb6)
              have HB6 := Aside0.mk (below_step HB5.out hb6)
              clear hb6
              go_wp2_with fail
              go_roundg (l.length - (jj + 1))
              case measure => omega
              case rel => exact ⟨jj + 1, hjt, by omega, by go_num, HX6, HB6⟩
            · rw [hw] at HC HF1 HF2
              go_wp2_with fail
              refine (P.quiverref05_Before.calls a.1 a.2 b.1 b.2 false _ HF1.out).mono ?_
              rintro e w4 ⟨rfl, hb4⟩
              have HX4 := Aside0.mk (blk_below HX.out hb4)
              have HY4 := Aside0.mk (blk_below HY.out hb4)
              have HB4 := Aside0.mk (below_step HBj.out hb4)
              have s0_4 : w4.cell? ⟨wo.heap.size, 0, none⟩ = some (.int .u64 a.1) := (blk_cell HX4.out 0).trans rfl
              have s1_4 : w4.cell? ⟨wo.heap.size, 1, none⟩ = some (.int .u64 a.2) := (blk_cell HX4.out 1).trans rfl
              have r0_4 : w4.cell? ⟨wr.heap.size, 0, none⟩ = some (.int .u64 b.1) := (blk_cell HY4.out 0).trans rfl
              have r1_4 : w4.cell? ⟨wr.heap.size, 1, none⟩ = some (.int .u64 b.2) := (blk_cell HY4.out 1).trans rfl
              clear hb4 p0 p1
              go_wp2_with fail
              refine (P.quiverref05_Before.calls b.1 b.2 a.1 a.2 false _ (HF2.out (by decide))).mono ?_
              rintro e w5 ⟨rfl, hb5⟩
              have HX5 := Aside0.mk (blk_below HX4.out hb5)
              have HY5 := Aside0.mk (blk_below HY4.out hb5)
              have HB5 := Aside0.mk (below_step HB4.out hb5)
              have s0_5 : w5.cell? ⟨wo.heap.size, 0, none⟩ = some (.int .u64 a.1) := (blk_cell HX5.out 0).trans rfl
              have s1_5 : w5.cell? ⟨wo.heap.size, 1, none⟩ = some (.int .u64 a.2) := (blk_cell HX5.out 1).trans rfl
              have r0_5 : w5.cell? ⟨wr.heap.size, 0, none⟩ = some (.int .u64 b.1) := (blk_cell HY5.out 0).trans rfl
              have r1_5 : w5.cell? ⟨wr.heap.size, 1, none⟩ = some (.int .u64 b.2) := (blk_cell HY5.out 1).trans rfl
              clear hb5 s0_4 s1_4 r0_4 r1_4
              go_wp2_with fail
              refine (P.vec_Compare.calls 5 a.1 a.2 b.1 b.2 0 _ HC.out).mono ?_
              rintro e w6 ⟨rfl, hb6⟩
              have HX6 := Aside0.mk (blk_below HX5.out hb6)
              have HB6 := Aside0.mk (below_step HB5.out hb6)
              clear hb6
              go_wp2_with fail
              go_roundg (l.length - (jj + 1))
              case measure => omega
              case rel => exact ⟨jj + 1, hjt, by omega, by go_num, HX6, HB6⟩
          · obtain rfl : jj = l.length := by omega
            go_wp2_with fail
            go_roundg (l.length - (kk + 1))
            case measure => omega
            case rel => exact ⟨kk + 1, hlt, by omega, by go_num, HBi⟩
      · obtain rfl : kk = l.length := by omega
        go_wp2_with fail
        go_returns
        exact ⟨rfl, HB.out⟩

theorem vecOrder.walk (A : Option Addr) (c : Nat) (l : List (Int × Int)) (W : World) (hl : l.length ≤ c) (hC : Kd.C kH W A l.length l) (wl : ∀ x ∈ l, (Lit.int .u64 x.1).wf = true ∧ (Lit.int .u64 x.2).wf = true) :
    Calls Try.prog 6 #[.slice A l.length c] W fun e W' => e = .returned (.bool true) ∧ Below W.heap.size W W' :=
  vecOrder.go A c l W hC hl

end Go.Proofs.Ytbdoeikdoohagaa.G
