/- Contracts of slices.EqualFunc over cells by arena.same, arena.Same. -/
import Derived.Test.YtoblkjdiahoplaaA3
import Derived.Test.YtoblkjdiahoplaaA4
import Derived.Test.YtoblkjdiahoplaaPx5
namespace Go.Proofs.Ytoblkjdiahoplaa.G
open Go.Shelf Go.RowKit Go.Proofs.YtoblkjdiahoplaaW.PrintWords Go.Proofs.YtoblkjdiahoplaaW.PrintLast Go.Proofs.YtoblkjdiahoplaaW.PrintMore
set_option linter.unusedVariables false
set_option linter.unusedSimpArgs false

/-- Are two cells the same? -/
def sameC (x y : Cell) : Bool := decide (x.f0 = y.f0 ∧ x.f1 = y.f1 ∧ x.f2.f0 = y.f2.f0 ∧ x.f2.f1 = y.f2.f1 ∧ x.f2.f2 = y.f2.f2)
theorem samec_is (x y : Cell) : P.arena_same.f x.f0 x.f1 x.f2.f0 x.f2.f1 x.f2.f2 y.f0 y.f1 y.f2.f0 y.f2.f1 y.f2.f2 = some (sameC x y) := by
  unfold P.arena_same.f sameC codec_SameVersion.f
  by_cases h0 : x.f0 = y.f0
  · rw [if_pos (by rw [h0]; simp)]
    by_cases h1 : x.f1 = y.f1
    · rw [if_pos h1]
      simp [h0, h1]
    · rw [if_neg h1]
      simp [h1]
  · rw [if_neg (by simp [h0])]
    simp [h0]
def eqCells (l m : List Cell) : Bool := decide (l.length = m.length) && (List.range l.length).all (fun k => sameC (cellAt l k) (cellAt m k))
def arena_Same.f (l m : List Cell) : Option Bool := some (eqCells l m)

set_option maxHeartbeats 2000000 in
set_option maxRecDepth 100000 in
theorem equalCells (A : Option Addr) (c : Nat) (a : List Cell) (B : Option Addr) (d : Nat) (b : List Cell) (w : World) (hr : Kd.C kC w A a.length a) (hr' : Kd.C kC w B b.length b) :
    Calls Try.prog 49 #[.slice A a.length c, .slice B b.length d, .func (.func 50) #[] #[]] w fun e w' => e = .returned (.bool (eqCells a b)) ∧ Below w.heap.size w w' := by
  have eg : ∀ args w, (callFunc 50 args).run Try.prog w = .ok (.enter 50 args) w := enters_of Try.func50 (by kernel_rfl) rfl
  have HR := Aside0.mk hr
  have HR' := Aside0.mk hr'
  have hm := Kd.C_max hr
  have hm' := Kd.C_max hr'
  clear hr hr'
  by_cases hl : a.length = b.length
  case neg =>
    have e1 : ((a.length : Int) != (b.length : Int)) = true := by rw [bne_iff_ne]; omega
    have e2 : eqCells a b = false := by unfold eqCells; rw [decide_eq_false hl]; rfl
    rw [e2]
    clear hl e2
    go_enter Try.func49, Try.ntmps49
    go_wp2_with fail
    go_returns
    exact ⟨rfl, Below.refl _ _⟩
  case pos =>
    have e1 : ((a.length : Int) != (b.length : Int)) = false := by rw [bne_eq_false_iff_eq]; omega
    have HL := Aside0.mk hl
    obtain ⟨r, hrr⟩ : ∃ r, r = eqCells a b := ⟨_, rfl⟩
    rw [← hrr]
    have HRR := Aside0.mk (show r = (List.range a.length).all (fun k => sameC (cellAt a k) (cellAt b k)) by rw [hrr]; unfold eqCells; rw [decide_eq_true hl]; rfl)
    clear hl hrr
    go_enter Try.func49, Try.ntmps49
    go_wp2_with fail
    go_loopg [17] a.length (fun gg s17 wr => ∃ kk : Nat, kk ≤ a.length ∧ a.length - kk ≤ gg ∧ s17 = .int .i64 kk ∧ Aside0 (Below w.heap.size w wr) ∧ Aside0 (∀ j, j < kk → sameC (cellAt a j) (cellAt b j) = true))
    case atStart => exact ⟨0, Nat.zero_le _, by omega, rfl, ⟨Below.refl _ _⟩, ⟨fun j hj => absurd hj (Nat.not_lt_zero _)⟩⟩
    case round =>
      obtain ⟨kk, hkk, hg, rfl, HD, HS⟩ := hrel
      by_cases hlt : kk < a.length
      · have hltz : (kk : Int) < (a.length : Int) := by omega
        have hltb : (kk : Int) < (b.length : Int) := by have := HL.out; omega
        obtain ⟨ad, A4, c4, hA, p0, p1, p2, p3, p4, hl4, hC4⟩ := P.at_T36 (Kd.C_below HR.out HD.out) (kk : Int) (by omega) (by omega)
        obtain ⟨bd, B4, d4, hB, q0, q1, q2, q3, q4, hl5, hC5⟩ := P.at_T36 (Kd.C_below HR'.out HD.out) (kk : Int) (by omega) (by omega)
        subst hA hB
        simp only [Int.toNat_natCast] at p0 p1 p2 p3 p4 q0 q1 q2 q3 q4
        have hS1 : (sameC (P.rd_T36 a (kk : Int)) (P.rd_T36 b (kk : Int)) = true → ∀ j, j < kk + 1 → sameC (cellAt a j) (cellAt b j) = true) := fun h j hj => by
          by_cases e : j = kk
          · rw [e]; exact h
          · exact HS.out j (by omega)
        have hS2 : (sameC (P.rd_T36 a (kk : Int)) (P.rd_T36 b (kk : Int)) = false → r = false) := fun h => by
          rw [HRR.out, List.all_eq_false]
          exact ⟨kk, List.mem_range.mpr hlt, by rw [show sameC (cellAt a kk) (cellAt b kk) = false from h]; simp⟩
        have HS1 := Aside0.mk hS1
        have HS2 := Aside0.mk hS2
        clear hS1 hS2
        generalize P.rd_T36 a (kk : Int) = x at *
        generalize P.rd_T36 b (kk : Int) = y at *
        have hsame := fun W (hb : Below wr.heap.size wr W) => P.arena_same.calls x.f0 x.f1 x.f2.f0 x.f2.f1 A4 c4 x.f2.f2 y.f0 y.f1 y.f2.f0 y.f2.f1 B4 d4 y.f2.f2 (sameC x y) W (Kd.C_below hC4 hb) hl4 (Kd.C_below hC5 hb) hl5 (samec_is x y)
        have HC := Aside0.mk hsame
        clear hsame hC4 hC5 hl4 hl5
        have ha1 : ad.block < wr.heap.size := by have := World.block_lt_of_cell? wr _ p0; rwa [block_add] at this
        have hb1 : bd.block < wr.heap.size := by have := World.block_lt_of_cell? wr _ q0; rwa [block_add] at this
        have Q0 := fun o => ((Below.refl wr.heap.size wr).alloc (Nat.le_refl _) o).cell (p := bd.add (kk * 5)) (by rw [block_add]; exact hb1) |>.trans q0
        have Q1 := fun o => ((Below.refl wr.heap.size wr).alloc (Nat.le_refl _) o).cell (p := ⟨(bd.add (kk * 5)).block, (bd.add (kk * 5)).off + 1, none⟩) (by show (bd.add (kk * 5)).block < _; rw [block_add]; exact hb1) |>.trans q1
        have Q2 := fun o => ((Below.refl wr.heap.size wr).alloc (Nat.le_refl _) o).cell (p := ⟨(bd.add (kk * 5)).block, (bd.add (kk * 5)).off + 2, none⟩) (by show (bd.add (kk * 5)).block < _; rw [block_add]; exact hb1) |>.trans q2
        have Q3 := fun o => ((Below.refl wr.heap.size wr).alloc (Nat.le_refl _) o).cell (p := ⟨(bd.add (kk * 5)).block, (bd.add (kk * 5)).off + 3, none⟩) (by show (bd.add (kk * 5)).block < _; rw [block_add]; exact hb1) |>.trans q3
        have Q4 := fun o => ((Below.refl wr.heap.size wr).alloc (Nat.le_refl _) o).cell (p := ⟨(bd.add (kk * 5)).block, (bd.add (kk * 5)).off + 4, none⟩) (by show (bd.add (kk * 5)).block < _; rw [block_add]; exact hb1) |>.trans q4
        clear q0 q1 q2 q3 q4 ha1 hb1
        cases he : sameC x y with
        | true =>
          rw [he] at HC
          have HS3 := Aside0.mk (HS1.out he)
          clear he HS1 HS2
          go_wp2_with (go_at_fn 50; refine (HC.out _ (((Below.refl wr.heap.size wr).alloc (Nat.le_refl _) _).alloc (by simp) _)).mono ?_; rintro e w' ⟨rfl, hd⟩; have HD2 := Aside0.mk (below_step (below_step HD.out (((Below.refl wr.heap.size wr).alloc (Nat.le_refl _) _).alloc (by simp) _)) hd); clear hd)
          go_roundg (a.length - (kk + 1))
          case measure => omega
          case rel => exact ⟨kk + 1, hlt, by omega, by go_num, HD2, HS3⟩
        | false =>
          rw [he] at HC
          have HE := Aside0.mk (HS2.out he)
          clear he HS1 HS2
          go_wp2_with (go_at_fn 50; refine (HC.out _ (((Below.refl wr.heap.size wr).alloc (Nat.le_refl _) _).alloc (by simp) _)).mono ?_; rintro e w' ⟨rfl, hd⟩; have HD2 := Aside0.mk (below_step (below_step HD.out (((Below.refl wr.heap.size wr).alloc (Nat.le_refl _) _).alloc (by simp) _)) hd); clear hd)
          go_returns
          exact ⟨by rw [HE.out]; rfl, HD2.out⟩
      · obtain rfl : kk = a.length := by omega
        have HE := Aside0.mk (show r = true by rw [HRR.out]; exact List.all_eq_true.mpr (fun j hj => HS.out j (List.mem_range.mp hj)))
        go_wp2_with fail
        go_returns
        exact ⟨by rw [HE.out]; rfl, HD.out⟩

set_option maxHeartbeats 1000000 in
set_option maxRecDepth 100000 in
theorem arena_Same.calls (A0 : Option Addr) (c0 : Nat) (l0 : List Cell) (A1 : Option Addr) (c1 : Nat) (l1 : List Cell) (r : Bool) (w : World) (hr0 : Kd.C kC w A0 l0.length l0) (hc0 : l0.length ≤ c0) (hr1 : Kd.C kC w A1 l1.length l1) (hc1 : l1.length ≤ c1) (h : arena_Same.f l0 l1 = some r) :
    Calls Try.prog 24 #[.agg #[.slice A0 l0.length c0], .agg #[.slice A1 l1.length c1]] w fun e w' => e = .returned (.bool r) ∧ Below w.heap.size w w' := by
  have hr := Option.some.inj h
  obtain ⟨w1, hw1⟩ : ∃ w1, w1 = (w.alloc (.cells #[.slice A0 l0.length c0] 26)).alloc (.cells #[.slice A1 l1.length c1] 26) := ⟨_, rfl⟩
  have hsz : (w.alloc (.cells #[.slice A0 l0.length c0] 26)).heap.size = w.heap.size + 1 := by simp
  have HB1 := Aside0.mk (show Below w.heap.size w w1 by rw [hw1]; exact ((Below.refl _ _).alloc (Nat.le_refl _) _).alloc (by simp) _)
  have hb0 : w1.heap[w.heap.size]? = some (.cells #[.slice A0 l0.length c0] 26 (0, 0)) := by rw [hw1]; exact (Below.heap_alloc _ _ _ (by simp)).trans (heap_alloc_new w _)
  have hb1 : w1.heap[w.heap.size + 1]? = some (.cells #[.slice A1 l1.length c1] 26 (0, 0)) := by rw [hw1, ← hsz]; exact heap_alloc_new _ _
  have q0 : w1.cell? ⟨w.heap.size, 0, none⟩ = some (.slice A0 l0.length c0) := (blk_cell hb0 0).trans rfl
  have q1 : w1.cell? ⟨w.heap.size + 1, 0, none⟩ = some (.slice A1 l1.length c1) := (blk_cell hb1 0).trans rfl
  have HE := Aside0.mk (equalCells A0 c0 l0 A1 c1 l1 w1 (Kd.C_below hr0 HB1.out) (Kd.C_below hr1 HB1.out))
  rw [hr] at HE
  have HW := Aside0.mk hw1
  clear hb0 hb1 hw1 hr0 hc0 hr1 hc1 h hr hsz
  go_enter Try.func24, Try.ntmps24
  go_upto_region 1 with (fail)
  rw [← HW.out]
  go_wp2_with fail
  refine HE.out.mono ?_
  rintro e w2 ⟨rfl, hd⟩
  have HB := Aside0.mk (below_step HB1.out hd)
  clear hd
  go_wp2_with fail
  go_returns
  exact ⟨rfl, HB.out⟩

end Go.Proofs.Ytoblkjdiahoplaa.G
