/- Contracts of writes.Same$1, slices.EqualFunc over writes, writes.Same; slices.EqualFunc over rows, by vec.Same. Contracts of slices.EqualFunc over writes, writes.Same; over rows by vec.Same; record.Same. Contracts of vec.Of, record.centroids. Which writes and records may be: plain. Contract of record.Check. -/
import Derived.Test.YtngjaaldidmgjaaMC
import Derived.Test.YtngjaaldidmgjaaMA
import Derived.Test.YtngjaaldidmgjaaPx2
import Derived.Test.YtngjaaldidmgjaaPx3
import Derived.Deep.CutRange
import Derived.Deep.DeepCutAuto
namespace Go.Proofs.Ytngjaaldidmgjaa.G

section
open Go.Shelf Go.RowKit Go.Proofs.YtngjaaldidmgjaaW.PrintWords Go.Proofs.YtngjaaldidmgjaaW.PrintLast Go.Proofs.YtngjaaldidmgjaaW.PrintMore
set_option linter.unusedVariables false
set_option linter.unusedSimpArgs false

abbrev Wr : Type := P.S87
abbrev kW : Kd Wr := P.k87
abbrev wV (x : Wr) (A : Option Addr) (c : Nat) : Value := .agg #[.int .i64 x.f0, .int .u64 x.f1, .bool x.f2, .slice A x.f3.length c]
def sgn (x y : Int) : Int := if x < y then -1 else if y < x then 1 else 0
theorem compare_is (x y : Int) : P.cmp_Compare_uint64.f x y = some (sgn x y) := by
  unfold P.cmp_Compare_uint64.f P.cmp_isNaN_uint64.f sgn
  by_cases h : x < y
  · simp [h]
  · by_cases h2 : y < x <;> simp [h, h2]
theorem or_is (s t : Int) : P.cmp_Or_int.f 5 [s, t] = some (if s ≠ 0 then s else t) := by
  have e0 : rd [s, t] 0 = s := rfl
  have e1 : rd [s, t] 1 = t := rfl
  have w1 : wrap64 (0 + 1) = 1 := by rw [w64 (by omega) (by omega)]; rfl
  have w2 : wrap64 (1 + 1) = 2 := by rw [w64 (by omega) (by omega)]; rfl
  unfold P.cmp_Or_int.f
  rw [P.cmp_Or_int.l0, if_pos (by simp), if_pos (by omega), if_pos (by simp), e0]
  by_cases hs : s = 0
  · rw [if_pos hs, if_neg (fun h => h hs), w1, P.cmp_Or_int.l0, if_pos (by simp), if_pos (by omega), if_pos (by simp), e1]
    by_cases ht : t = 0
    · rw [if_pos ht, w2, P.cmp_Or_int.l0, if_neg (by simp), ht]
    · rw [if_neg ht]
  · rw [if_neg hs, if_pos hs]
theorem comparei_is (x y : Int) : P.cmp_Compare_int.f x y = some (sgn x y) := by
  unfold P.cmp_Compare_int.f P.cmp_isNaN_int.f sgn
  by_cases h : x < y
  · simp [h]
  · by_cases h2 : y < x <;> simp [h, h2]
/-- The order of writes. -/
def cmpW (x y : Wr) : Int := if sgn x.f0 y.f0 ≠ 0 then sgn x.f0 y.f0 else sgn x.f1 y.f1
theorem cmpw_is (x y : Wr) : P.writes_compare.f 5 x.f0 x.f1 x.f2 x.f3 y.f0 y.f1 y.f2 y.f3 = some (cmpW x y) := by
  unfold P.writes_compare.f cmpW
  rw [comparei_is, compare_is, Option.bind_some, Option.bind_some, or_is, Option.bind_some]
theorem sgn_zero (a b : Int) : sgn a b = 0 ↔ a = b := by
  unfold sgn
  constructor
  · intro h
    by_cases h1 : a < b
    · rw [if_pos h1] at h; omega
    · rw [if_neg h1] at h
      by_cases h2 : b < a
      · rw [if_pos h2] at h; omega
      · omega
  · rintro rfl
    simp
theorem cmpW_zero (x y : Wr) : cmpW x y = 0 ↔ x.f0 = y.f0 ∧ x.f1 = y.f1 := by
  unfold cmpW
  by_cases h : sgn x.f0 y.f0 = 0
  · rw [if_neg (by simpa using h), sgn_zero]
    rw [sgn_zero] at h
    simp [h]
  · rw [if_pos h]
    constructor
    · intro e; exact absurd e h
    · intro e; exact absurd ((sgn_zero _ _).2 e.1) h
/-- Are two writes the same? -/
def sameW (x y : Wr) : Bool := decide (x.f0 = y.f0 ∧ x.f1 = y.f1 ∧ x.f2 = y.f2 ∧ x.f3 = y.f3)
theorem sameW_iff (x y : Wr) : sameW x y = true ↔ x = y := by
  unfold sameW
  rw [decide_eq_true_iff]
  cases x; cases y; simp

set_option maxHeartbeats 2000000 in
set_option maxRecDepth 100000 in
theorem same1 (x y : Wr) (A : Option Addr) (c : Nat) (B : Option Addr) (d : Nat) (W : World) (hl : x.f3.length ≤ c) (hA : Kd.C (Kd.int .i32) W A x.f3.length x.f3) (hm : y.f3.length ≤ d) (hB : Kd.C (Kd.int .i32) W B y.f3.length y.f3) :
    Calls Try.prog 107 #[wV x A c, wV y B d] W fun e w' => e = .returned (.bool (sameW x y)) ∧ Below W.heap.size W w' := by
  obtain ⟨w1, hw1⟩ : ∃ w1, w1 = (W.alloc (.cells #[.int .i64 x.f0, .int .u64 x.f1, .bool x.f2, .slice A x.f3.length c] 87)).alloc (.cells #[.int .i64 y.f0, .int .u64 y.f1, .bool y.f2, .slice B y.f3.length d] 87) := ⟨_, rfl⟩
  have hsz : (W.alloc (.cells #[.int .i64 x.f0, .int .u64 x.f1, .bool x.f2, .slice A x.f3.length c] 87)).heap.size = W.heap.size + 1 := by simp
  have HB1 := Aside0.mk (show Below W.heap.size W w1 by rw [hw1]; exact ((Below.refl _ _).alloc (Nat.le_refl _) _).alloc (by simp) _)
  have HX := Aside0.mk (show w1.heap[W.heap.size]? = some (.cells #[.int .i64 x.f0, .int .u64 x.f1, .bool x.f2, .slice A x.f3.length c] 87 (0, 0)) by rw [hw1]; exact (Below.heap_alloc _ _ _ (by simp)).trans (heap_alloc_new W _))
  have HY := Aside0.mk (show w1.heap[W.heap.size + 1]? = some (.cells #[.int .i64 y.f0, .int .u64 y.f1, .bool y.f2, .slice B y.f3.length d] 87 (0, 0)) by rw [hw1, ← hsz]; exact heap_alloc_new _ _)
  have x0 : w1.cell? ⟨W.heap.size, 0, none⟩ = some (.int .i64 x.f0) := (blk_cell HX.out 0).trans rfl
  have x1 : w1.cell? ⟨W.heap.size, 1, none⟩ = some (.int .u64 x.f1) := (blk_cell HX.out 1).trans rfl
  have x2 : w1.cell? ⟨W.heap.size, 2, none⟩ = some (.bool x.f2) := (blk_cell HX.out 2).trans rfl
  have x3 : w1.cell? ⟨W.heap.size, 3, none⟩ = some (.slice A x.f3.length c) := (blk_cell HX.out 3).trans rfl
  have y0 : w1.cell? ⟨W.heap.size + 1, 0, none⟩ = some (.int .i64 y.f0) := (blk_cell HY.out 0).trans rfl
  have y1 : w1.cell? ⟨W.heap.size + 1, 1, none⟩ = some (.int .u64 y.f1) := (blk_cell HY.out 1).trans rfl
  have y2 : w1.cell? ⟨W.heap.size + 1, 2, none⟩ = some (.bool y.f2) := (blk_cell HY.out 2).trans rfl
  have y3 : w1.cell? ⟨W.heap.size + 1, 3, none⟩ = some (.slice B y.f3.length d) := (blk_cell HY.out 3).trans rfl
  have HC := Aside0.mk (P.writes_compare.calls 5 x.f0 x.f1 x.f2 A c x.f3 y.f0 y.f1 y.f2 B d y.f3 (cmpW x y) w1 (Kd.C_below hA HB1.out) hl (Kd.C_below hB HB1.out) hm (cmpw_is x y))
  have HV := Aside0.mk (fun W' (h : Below w1.heap.size w1 W') => P.vec_Same.calls (x.f3.length + 1) A c x.f3 B d y.f3 (decide (x.f3 = y.f3)) W' (Kd.C_below (Kd.C_below hA HB1.out) h) hl (Kd.C_below (Kd.C_below hB HB1.out) h) hm (same_is _ _ _ (by omega) (Kd.C_max hA)))
  have HW := Aside0.mk hw1
  have hz := cmpW_zero x y
  by_cases h0 : cmpW x y = 0
  · have hz2 := hz.1 h0
    have e0 : (cmpW x y == 0) = true := by rw [h0]; rfl
    have hs : sameW x y = (decide (x.f2 = y.f2) && decide (x.f3 = y.f3)) := by
      unfold sameW
      by_cases h2 : x.f2 = y.f2 <;> by_cases h3 : x.f3 = y.f3 <;> simp [hz2, h2, h3]
    rw [hs]
    clear hs hz h0 hz2 hA hB hl hm hw1 hsz
    generalize cmpW x y = cv at *
    generalize decide (x.f3 = y.f3) = s3 at *
    obtain ⟨rr, hrr⟩ : ∃ rr, rr = (decide (x.f2 = y.f2) && s3) := ⟨_, rfl⟩
    rw [← hrr]
    have HRR := Aside0.mk hrr
    clear hrr
    go_enter Try.func107, Try.ntmps107
    go_upto_region 1 with (fail)
    rw [← HW.out]
    go_wp2_with fail
    refine HC.out.mono ?_
    rintro e w2 ⟨rfl, hd⟩
    have HB2 := Aside0.mk (below_step HB1.out hd)
    have x2 : w2.cell? ⟨W.heap.size, 2, none⟩ = some (.bool x.f2) := (blk_cell (blk_below HX.out hd) 2).trans rfl
    have x3 : w2.cell? ⟨W.heap.size, 3, none⟩ = some (.slice A x.f3.length c) := (blk_cell (blk_below HX.out hd) 3).trans rfl
    have y2 : w2.cell? ⟨W.heap.size + 1, 2, none⟩ = some (.bool y.f2) := (blk_cell (blk_below HY.out hd) 2).trans rfl
    have y3 : w2.cell? ⟨W.heap.size + 1, 3, none⟩ = some (.slice B y.f3.length d) := (blk_cell (blk_below HY.out hd) 3).trans rfl
    have HVV := Aside0.mk (HV.out w2 hd)
    clear hd HV HC HX HY
    obtain ⟨u2, hu2⟩ : ∃ u, u = x.f2 := ⟨_, rfl⟩
    obtain ⟨v2, hv2⟩ : ∃ u, u = y.f2 := ⟨_, rfl⟩
    rw [← hu2] at x2
    rw [← hv2] at y2
    have HP := Aside0.mk (show rr = (decide (u2 = v2) && s3) by rw [HRR.out, hu2, hv2])
    clear hu2 hv2
    cases u2 <;> cases v2
    all_goals first
      | (go_wp2_with fail; go_returns; exact ⟨by rw [HP.out]; rfl, HB2.out⟩)
      | (go_wp2_with fail; refine HVV.out.mono ?_; rintro e w3 ⟨rfl, hd⟩; have HB3 := Aside0.mk (below_step HB2.out (hd.below)); clear hd; go_wp2_with fail; go_returns; exact ⟨by rw [HP.out]; rfl, HB3.out⟩)
  · have e0 : (cmpW x y == 0) = false := by rw [beq_eq_false_iff_ne]; exact h0
    have hs : sameW x y = false := by
      unfold sameW
      exact decide_eq_false (fun e => h0 (hz.2 ⟨e.1, e.2.1⟩))
    rw [hs]
    clear hs hz h0 hA hB hl hm hw1 hsz HV
    generalize cmpW x y = cv at *
    go_enter Try.func107, Try.ntmps107
    go_upto_region 1 with (fail)
    rw [← HW.out]
    go_wp2_with fail
    refine HC.out.mono ?_
    rintro e w2 ⟨rfl, hd⟩
    have HB2 := Aside0.mk (below_step HB1.out hd)
    clear hd
    go_wp2_with fail
    go_returns
    exact ⟨rfl, HB2.out⟩
end

section
open Go.Shelf Go.RowKit Go.Proofs.YtngjaaldidmgjaaW.PrintWords Go.Proofs.YtngjaaldidmgjaaW.PrintLast Go.Proofs.YtngjaaldidmgjaaW.PrintMore
set_option linter.unusedVariables false
set_option linter.unusedSimpArgs false

def wrAt (l : List Wr) (k : Nat) : Wr := P.rd_T87 l (k : Int)
def eqWrs (l m : List Wr) : Bool := decide (l.length = m.length) && (List.range l.length).all (fun k => sameW (wrAt l k) (wrAt m k))
theorem wrAt_lt (l : List Wr) (k : Nat) (h : k < l.length) : wrAt l k = l[k] := by
  unfold wrAt P.rd_T87
  rw [Int.toNat_natCast, List.getD_eq_getElem?_getD, List.getElem?_eq_getElem h]; rfl
theorem eqWrs_iff (l m : List Wr) : eqWrs l m = true ↔ l = m := by
  unfold eqWrs
  rw [Bool.and_eq_true, decide_eq_true_iff, List.all_eq_true]
  constructor
  · rintro ⟨h1, h2⟩
    refine List.ext_getElem h1 (fun k hk hk2 => ?_)
    have := (sameW_iff _ _).1 (h2 k (List.mem_range.mpr hk))
    rwa [wrAt_lt l k hk, wrAt_lt m k hk2] at this
  · rintro rfl
    exact ⟨rfl, fun k _ => (sameW_iff _ _).2 rfl⟩

set_option maxHeartbeats 2000000 in
set_option maxRecDepth 100000 in
theorem equalWrs (A : Option Addr) (c : Nat) (a : List Wr) (B : Option Addr) (d : Nat) (b : List Wr) (w : World) (hr : Kd.C kW w A a.length a) (hr' : Kd.C kW w B b.length b) :
    Calls Try.prog 106 #[.slice A a.length c, .slice B b.length d, .func (.func 107) #[] #[]] w fun e w' => e = .returned (.bool (eqWrs a b)) ∧ Below w.heap.size w w' := by
  have eg : ∀ args w, (callFunc 107 args).run Try.prog w = .ok (.enter 107 args) w := enters_of Try.func107 (by kernel_rfl) rfl
  have HR := Aside0.mk hr
  have HR' := Aside0.mk hr'
  have hm := Kd.C_max hr
  have hm' := Kd.C_max hr'
  clear hr hr'
  by_cases hl : a.length = b.length
  case neg =>
    have e1 : ((a.length : Int) != (b.length : Int)) = true := by rw [bne_iff_ne]; omega
    have e2 : eqWrs a b = false := by unfold eqWrs; rw [decide_eq_false hl]; rfl
    rw [e2]
    clear hl e2
    go_enter Try.func106, Try.ntmps106
    go_wp2_with fail
    go_returns
    exact ⟨rfl, Below.refl _ _⟩
  case pos =>
    have e1 : ((a.length : Int) != (b.length : Int)) = false := by rw [bne_eq_false_iff_eq]; omega
    have HL := Aside0.mk hl
    obtain ⟨r, hrr⟩ : ∃ r, r = eqWrs a b := ⟨_, rfl⟩
    rw [← hrr]
    have HRR := Aside0.mk (show r = (List.range a.length).all (fun k => sameW (wrAt a k) (wrAt b k)) by rw [hrr]; unfold eqWrs; rw [decide_eq_true hl]; rfl)
    clear hl hrr
    go_enter Try.func106, Try.ntmps106
    go_wp2_with fail
    go_loopg [17] a.length (fun gg s17 wr => ∃ kk : Nat, kk ≤ a.length ∧ a.length - kk ≤ gg ∧ s17 = .int .i64 kk ∧ Aside0 (Below w.heap.size w wr) ∧ Aside0 (∀ j, j < kk → sameW (wrAt a j) (wrAt b j) = true))
    case atStart => exact ⟨0, Nat.zero_le _, by omega, rfl, ⟨Below.refl _ _⟩, ⟨fun j hj => absurd hj (Nat.not_lt_zero _)⟩⟩
    case round =>
      obtain ⟨kk, hkk, hg, rfl, HD, HS⟩ := hrel
      by_cases hlt : kk < a.length
      · have hltz : (kk : Int) < (a.length : Int) := by omega
        have hltb : (kk : Int) < (b.length : Int) := by have := HL.out; omega
        obtain ⟨ad, A4, c4, hA, p0, p1, p2, p3, hl4, hC4⟩ := P.at_T87 (Kd.C_below HR.out HD.out) (kk : Int) (by omega) (by omega)
        obtain ⟨bd, B4, d4, hB, q0, q1, q2, q3, hl5, hC5⟩ := P.at_T87 (Kd.C_below HR'.out HD.out) (kk : Int) (by omega) (by omega)
        subst hA hB
        simp only [Int.toNat_natCast] at p0 p1 p2 p3 q0 q1 q2 q3
        have hS1 : (sameW (P.rd_T87 a (kk : Int)) (P.rd_T87 b (kk : Int)) = true → ∀ j, j < kk + 1 → sameW (wrAt a j) (wrAt b j) = true) := fun h j hj => by
          by_cases e : j = kk
          · rw [e]; exact h
          · exact HS.out j (by omega)
        have hS2 : (sameW (P.rd_T87 a (kk : Int)) (P.rd_T87 b (kk : Int)) = false → r = false) := fun h => by
          rw [HRR.out, List.all_eq_false]
          exact ⟨kk, List.mem_range.mpr hlt, by rw [show sameW (wrAt a kk) (wrAt b kk) = false from h]; simp⟩
        have HS1 := Aside0.mk hS1
        have HS2 := Aside0.mk hS2
        clear hS1 hS2
        generalize P.rd_T87 a (kk : Int) = x at *
        generalize P.rd_T87 b (kk : Int) = y at *
        have hsame := fun W (hb : Below wr.heap.size wr W) => same1 x y A4 c4 B4 d4 W hl4 (Kd.C_below hC4 hb) hl5 (Kd.C_below hC5 hb)
        have HC := Aside0.mk hsame
        clear hsame hC4 hC5 hl4 hl5
        have ha1 : ad.block < wr.heap.size := by have := World.block_lt_of_cell? wr _ p0; rwa [block_add] at this
        have hb1 : bd.block < wr.heap.size := by have := World.block_lt_of_cell? wr _ q0; rwa [block_add] at this
        have Q0 := fun o => ((Below.refl wr.heap.size wr).alloc (Nat.le_refl _) o).cell (p := bd.add (kk * 4)) (by rw [block_add]; exact hb1) |>.trans q0
        have Q1 := fun o => ((Below.refl wr.heap.size wr).alloc (Nat.le_refl _) o).cell (p := ⟨(bd.add (kk * 4)).block, (bd.add (kk * 4)).off + 1, none⟩) (by show (bd.add (kk * 4)).block < _; rw [block_add]; exact hb1) |>.trans q1
        have Q2 := fun o => ((Below.refl wr.heap.size wr).alloc (Nat.le_refl _) o).cell (p := ⟨(bd.add (kk * 4)).block, (bd.add (kk * 4)).off + 2, none⟩) (by show (bd.add (kk * 4)).block < _; rw [block_add]; exact hb1) |>.trans q2
        have Q3 := fun o => ((Below.refl wr.heap.size wr).alloc (Nat.le_refl _) o).cell (p := ⟨(bd.add (kk * 4)).block, (bd.add (kk * 4)).off + 3, none⟩) (by show (bd.add (kk * 4)).block < _; rw [block_add]; exact hb1) |>.trans q3
        clear q0 q1 q2 q3 ha1 hb1
        cases he : sameW x y with
        | true =>
          rw [he] at HC
          have HS3 := Aside0.mk (HS1.out he)
          clear he HS1 HS2
          go_wp2_with (go_at_fn 107; refine (HC.out _ (((Below.refl wr.heap.size wr).alloc (Nat.le_refl _) _).alloc (by simp) _)).mono ?_; rintro e w' ⟨rfl, hd⟩; have HD2 := Aside0.mk (below_step (below_step HD.out (((Below.refl wr.heap.size wr).alloc (Nat.le_refl _) _).alloc (by simp) _)) hd); clear hd)
          go_roundg (a.length - (kk + 1))
          case measure => omega
          case rel => exact ⟨kk + 1, hlt, by omega, by go_num, HD2, HS3⟩
        | false =>
          rw [he] at HC
          have HE := Aside0.mk (HS2.out he)
          clear he HS1 HS2
          go_wp2_with (go_at_fn 107; refine (HC.out _ (((Below.refl wr.heap.size wr).alloc (Nat.le_refl _) _).alloc (by simp) _)).mono ?_; rintro e w' ⟨rfl, hd⟩; have HD2 := Aside0.mk (below_step (below_step HD.out (((Below.refl wr.heap.size wr).alloc (Nat.le_refl _) _).alloc (by simp) _)) hd); clear hd)
          go_returns
          exact ⟨by rw [HE.out]; rfl, HD2.out⟩
      · obtain rfl : kk = a.length := by omega
        have HE := Aside0.mk (show r = true by rw [HRR.out]; exact List.all_eq_true.mpr (fun j hj => HS.out j (List.mem_range.mp hj)))
        go_wp2_with fail
        go_returns
        exact ⟨by rw [HE.out]; rfl, HD.out⟩


set_option maxHeartbeats 1000000 in
set_option maxRecDepth 100000 in
theorem writes_Same.calls (A : Option Addr) (c : Nat) (a : List Wr) (B : Option Addr) (d : Nat) (b : List Wr) (w : World) (hr : Kd.C kW w A a.length a) (hr' : Kd.C kW w B b.length b) :
    Calls Try.prog 63 #[.slice A a.length c, .slice B b.length d] w fun e w' => e = .returned (.bool (eqWrs a b)) ∧ Below w.heap.size w w' := by
  have HE := Aside0.mk (equalWrs A c a B d b w hr hr')
  generalize eqWrs a b = r at *
  clear hr hr'
  go_enter Try.func63, Try.ntmps63
  go_wp2_with fail
  refine HE.out.mono ?_
  rintro e w' ⟨rfl, hd⟩
  have HD := Aside0.mk hd
  clear hd
  go_wp2_with fail
  go_returns
  exact ⟨rfl, HD.out⟩

abbrev kV : Kd (List Int) := Kd.slice 21 (Kd.int .i32)
theorem row_at {W : World} {A : Option Addr} {n : Nat} {l : List (List Int)} (h : Kd.C kV W A n l) (k : Nat) (hk : k < n) : ∃ ad A' c', A = some ad ∧ W.cell? (ad.add k) = some (.slice A' (l.getD k []).length c') ∧ (l.getD k []).length ≤ c' ∧ Kd.C (Kd.int .i32) W A' (l.getD k []).length (l.getD k []) := by
  obtain ⟨ad, c, hA, hl, hK, hc⟩ := Kd.C_get h ([] : List Int) (k : Int) (by omega) (by omega)
  rw [Int.toNat_natCast] at hK hc
  obtain ⟨A', c', rfl, h1, h2⟩ := hK
  have := hc 0 _ rfl
  rw [Nat.add_zero, show k * kV.sz = k from Nat.mul_one k] at this
  exact ⟨ad, A', c', hA, this, h1, h2⟩
theorem rows_eq (a b : List (List Int)) (h : a.length = b.length) (hj : ∀ j, j < a.length → a.getD j [] = b.getD j []) : a = b := by
  refine List.ext_getElem h fun j h1 h2 => ?_
  have := hj j h1
  rwa [getD_of_lt a j [] h1, getD_of_lt b j [] h2] at this

set_option maxHeartbeats 2000000 in
set_option maxRecDepth 100000 in
theorem equalRows (A : Option Addr) (c : Nat) (a : List (List Int)) (B : Option Addr) (d : Nat) (b : List (List Int)) (w : World) (hr : Kd.C kV w A a.length a) (hr' : Kd.C kV w B b.length b) :
    Calls Try.prog 64 #[.slice A a.length c, .slice B b.length d, .func (.func 65) #[] #[]] w fun e w' => e = .returned (.bool (decide (a = b))) ∧ Drawn0 w w' := by
  have eg : ∀ args w, (callFunc 65 args).run Try.prog w = .ok (.enter 65 args) w := enters_of Try.func65 (by kernel_rfl) rfl
  have HR := Aside0.mk hr
  have HR' := Aside0.mk hr'
  have hm := Kd.C_max hr
  have hm' := Kd.C_max hr'
  clear hr hr'
  by_cases hl : a.length = b.length
  case neg =>
    have e1 : ((a.length : Int) != (b.length : Int)) = true := by rw [bne_iff_ne]; omega
    have e2 : decide (a = b) = false := decide_eq_false (fun e => hl (by rw [e]))
    rw [e2]
    clear hl e2
    go_enter Try.func64, Try.ntmps64
    go_wp2_with fail
    go_returns
    exact ⟨rfl, Drawn0.refl _⟩
  case pos =>
    have e1 : ((a.length : Int) != (b.length : Int)) = false := by rw [bne_eq_false_iff_eq]; omega
    have HL := Aside0.mk hl
    obtain ⟨r, hrr⟩ : ∃ r, r = decide (a = b) := ⟨_, rfl⟩
    rw [← hrr]
    have HRR := Aside0.mk hrr
    clear hl hrr
    go_enter Try.func64, Try.ntmps64
    go_wp2_with fail
    go_loopg [17] a.length (fun gg s17 wr => ∃ kk : Nat, kk ≤ a.length ∧ a.length - kk ≤ gg ∧ s17 = .int .i64 kk ∧ Aside0 (Drawn0 w wr) ∧ Aside0 (∀ j, j < kk → a.getD j [] = b.getD j []))
    case atStart => exact ⟨0, Nat.zero_le _, by omega, rfl, ⟨Drawn0.refl _⟩, ⟨fun j hj => absurd hj (Nat.not_lt_zero _)⟩⟩
    case round =>
      obtain ⟨kk, hkk, hg, rfl, HD, HS⟩ := hrel
      by_cases hlt : kk < a.length
      · have hltz : (kk : Int) < (a.length : Int) := by omega
        have hltb : (kk : Int) < (b.length : Int) := by have := HL.out; omega
        obtain ⟨ad, A', c', hA, hcell, hlc, hC⟩ := row_at (Kd.C_below HR.out HD.out.below) kk hlt
        obtain ⟨bd, B', d', hB, hcell', hlc', hC'⟩ := row_at (Kd.C_below HR'.out HD.out.below) kk (by have := HL.out; omega)
        subst hA hB
        have hsame := P.vec_Same.calls ((a.getD kk []).length + 1) A' c' (a.getD kk []) B' d' (b.getD kk []) (decide (a.getD kk [] = b.getD kk [])) wr hC hlc hC' hlc' (same_is _ _ _ (by omega) (Kd.C_max hC))
        have hgood : a.getD kk [] = b.getD kk [] → ∀ j, j < kk + 1 → a.getD j [] = b.getD j [] := fun h j hj => by
          by_cases e : j = kk
          · rw [e]; exact h
          · exact HS.out j (by omega)
        have hbad : a.getD kk [] ≠ b.getD kk [] → r = false := fun h => by
          rw [HRR.out]
          exact decide_eq_false (fun e => h (by rw [e]))
        clear hC hC' hlc hlc'
        by_cases he : a.getD kk [] = b.getD kk []
        · rw [decide_eq_true he] at hsame
          have HS2 := Aside0.mk (hgood he)
          have HC := Aside0.mk hsame
          clear hsame hgood hbad he
          generalize (a.getD kk []).length = n1 at *
          generalize (b.getD kk []).length = n2 at *
          go_wp2_with (go_at_fn 65; refine HC.out.mono ?_; rintro e w' ⟨rfl, ⟨⟨q', rfl⟩⟩⟩)
          go_roundg (a.length - (kk + 1))
          case measure => omega
          case rel => exact ⟨kk + 1, hlt, by omega, by go_num, ⟨HD.out.step _⟩, HS2⟩
        · rw [decide_eq_false he] at hsame
          have HE := Aside0.mk (hbad he)
          have HC := Aside0.mk hsame
          clear hsame hgood hbad he
          generalize (a.getD kk []).length = n1 at *
          generalize (b.getD kk []).length = n2 at *
          go_wp2_with (go_at_fn 65; refine HC.out.mono ?_; rintro e w' ⟨rfl, ⟨⟨q', rfl⟩⟩⟩)
          go_returns
          exact ⟨by rw [HE.out]; rfl, HD.out.step _⟩
      · obtain rfl : kk = a.length := by omega
        have HE := Aside0.mk (show r = true by rw [HRR.out]; exact decide_eq_true (rows_eq a b HL.out HS.out))
        go_wp2_with fail
        go_returns
        exact ⟨by rw [HE.out]; rfl, HD.out⟩


/-- A record's fields. -/
abbrev Rc : Type := P.S28
abbrev kRc : Kd Rc := P.k28
def sameR (x y : Rc) : Bool := decide (x.f0 = y.f0 ∧ x.f1 = y.f1 ∧ x.f2 = y.f2 ∧ x.f3 = y.f3 ∧ x.f4 = y.f4) && (eqWrs x.f5 y.f5 && decide (x.f6 = y.f6))
theorem sameR_iff (x y : Rc) : sameR x y = true ↔ x = y := by
  unfold sameR
  rw [Bool.and_eq_true, Bool.and_eq_true, decide_eq_true_iff, decide_eq_true_iff, eqWrs_iff]
  cases x; cases y; simp; grind

set_option maxHeartbeats 4000000 in
set_option maxRecDepth 100000 in
theorem recSame (a0 a1 a2 a3 a4 b0 b1 b2 b3 b4 : Int) (l5 m5 : List Wr) (l6 m6 : List (List Int)) (A5 : Option Addr) (c5 : Nat) (A6 : Option Addr) (c6 : Nat) (B5 : Option Addr) (d5 : Nat) (B6 : Option Addr) (d6 : Nat) (W : World) (h5 : Kd.C kW W A5 l5.length l5) (h6 : Kd.C kV W A6 l6.length l6) (g5 : Kd.C kW W B5 m5.length m5) (g6 : Kd.C kV W B6 m6.length m6) :
    Calls Try.prog 19 #[.agg #[.int .i64 a0, .int .u64 a1, .int .u64 a2, .int .i64 a3, .int .i64 a4, .slice A5 l5.length c5, .slice A6 l6.length c6], .agg #[.int .i64 b0, .int .u64 b1, .int .u64 b2, .int .i64 b3, .int .i64 b4, .slice B5 m5.length d5, .slice B6 m6.length d6]] W fun e w' => e = .returned (.bool (decide (a0 = b0 ∧ a1 = b1 ∧ a2 = b2 ∧ a3 = b3 ∧ a4 = b4) && (eqWrs l5 m5 && decide (l6 = m6)))) ∧ Below W.heap.size W w' := by
  obtain ⟨w1, hw1⟩ : ∃ w1, w1 = (W.alloc (.cells #[.int .i64 a0, .int .u64 a1, .int .u64 a2, .int .i64 a3, .int .i64 a4, .slice A5 l5.length c5, .slice A6 l6.length c6] 28)).alloc (.cells #[.int .i64 b0, .int .u64 b1, .int .u64 b2, .int .i64 b3, .int .i64 b4, .slice B5 m5.length d5, .slice B6 m6.length d6] 28) := ⟨_, rfl⟩
  have hsz : (W.alloc (.cells #[.int .i64 a0, .int .u64 a1, .int .u64 a2, .int .i64 a3, .int .i64 a4, .slice A5 l5.length c5, .slice A6 l6.length c6] 28)).heap.size = W.heap.size + 1 := by simp
  have HB1 := Aside0.mk (show Below W.heap.size W w1 by rw [hw1]; exact ((Below.refl _ _).alloc (Nat.le_refl _) _).alloc (by simp) _)
  have HX := Aside0.mk (show w1.heap[W.heap.size]? = some (.cells #[.int .i64 a0, .int .u64 a1, .int .u64 a2, .int .i64 a3, .int .i64 a4, .slice A5 l5.length c5, .slice A6 l6.length c6] 28 (0, 0)) by rw [hw1]; exact (Below.heap_alloc _ _ _ (by simp)).trans (heap_alloc_new W _))
  have HY := Aside0.mk (show w1.heap[W.heap.size + 1]? = some (.cells #[.int .i64 b0, .int .u64 b1, .int .u64 b2, .int .i64 b3, .int .i64 b4, .slice B5 m5.length d5, .slice B6 m6.length d6] 28 (0, 0)) by rw [hw1, ← hsz]; exact heap_alloc_new _ _)
  have x0 : w1.cell? ⟨W.heap.size, 0, none⟩ = some (.int .i64 a0) := (blk_cell HX.out 0).trans rfl
  have y0 : w1.cell? ⟨W.heap.size + 1, 0, none⟩ = some (.int .i64 b0) := (blk_cell HY.out 0).trans rfl
  have x1 : w1.cell? ⟨W.heap.size, 1, none⟩ = some (.int .u64 a1) := (blk_cell HX.out 1).trans rfl
  have y1 : w1.cell? ⟨W.heap.size + 1, 1, none⟩ = some (.int .u64 b1) := (blk_cell HY.out 1).trans rfl
  have x2 : w1.cell? ⟨W.heap.size, 2, none⟩ = some (.int .u64 a2) := (blk_cell HX.out 2).trans rfl
  have y2 : w1.cell? ⟨W.heap.size + 1, 2, none⟩ = some (.int .u64 b2) := (blk_cell HY.out 2).trans rfl
  have x3 : w1.cell? ⟨W.heap.size, 3, none⟩ = some (.int .i64 a3) := (blk_cell HX.out 3).trans rfl
  have y3 : w1.cell? ⟨W.heap.size + 1, 3, none⟩ = some (.int .i64 b3) := (blk_cell HY.out 3).trans rfl
  have x4 : w1.cell? ⟨W.heap.size, 4, none⟩ = some (.int .i64 a4) := (blk_cell HX.out 4).trans rfl
  have y4 : w1.cell? ⟨W.heap.size + 1, 4, none⟩ = some (.int .i64 b4) := (blk_cell HY.out 4).trans rfl
  have x5 : w1.cell? ⟨W.heap.size, 5, none⟩ = some (.slice A5 l5.length c5) := (blk_cell HX.out 5).trans rfl
  have y5 : w1.cell? ⟨W.heap.size + 1, 5, none⟩ = some (.slice B5 m5.length d5) := (blk_cell HY.out 5).trans rfl
  have x6 : w1.cell? ⟨W.heap.size, 6, none⟩ = some (.slice A6 l6.length c6) := (blk_cell HX.out 6).trans rfl
  have y6 : w1.cell? ⟨W.heap.size + 1, 6, none⟩ = some (.slice B6 m6.length d6) := (blk_cell HY.out 6).trans rfl
  have HWS := Aside0.mk (writes_Same.calls A5 c5 l5 B5 d5 m5 w1 (Kd.C_below h5 HB1.out) (Kd.C_below g5 HB1.out))
  have HER := Aside0.mk (fun W' (h : Below w1.heap.size w1 W') => equalRows A6 c6 l6 B6 d6 m6 W' (Kd.C_below (Kd.C_below h6 HB1.out) h) (Kd.C_below (Kd.C_below g6 HB1.out) h))
  have HW := Aside0.mk hw1
  obtain ⟨r, hr⟩ : ∃ r, r = (decide (a0 = b0 ∧ a1 = b1 ∧ a2 = b2 ∧ a3 = b3 ∧ a4 = b4) && (eqWrs l5 m5 && decide (l6 = m6))) := ⟨_, rfl⟩
  rw [← hr]
  have HR := Aside0.mk (show r = (decide (a0 = b0 ∧ a1 = b1 ∧ a2 = b2 ∧ a3 = b3 ∧ a4 = b4) && (eqWrs l5 m5 && decide (l6 = m6))) from hr)
  generalize eqWrs l5 m5 = sw at *
  generalize decide (l6 = m6) = sv at *
  clear h5 h6 g5 g6 hw1 hsz hr
  by_cases e0 : a0 = b0
  case neg =>
    have nb0 : (a0 == b0) = false := by rw [beq_eq_false_iff_ne]; exact e0
    have HZ := Aside0.mk (show r = false by rw [HR.out, decide_eq_false (fun h => e0 h.1)]; rfl)
    clear e0
    go_enter Try.func19, Try.ntmps19
    go_upto_region 1 with (fail)
    rw [← HW.out]
    go_wp2_with fail
    go_returns
    exact ⟨by rw [HZ.out]; rfl, HB1.out⟩
  subst e0
  by_cases e1 : a1 = b1
  case neg =>
    have nb1 : (a1 == b1) = false := by rw [beq_eq_false_iff_ne]; exact e1
    have HZ := Aside0.mk (show r = false by rw [HR.out, decide_eq_false (fun h => e1 h.2.1)]; rfl)
    clear e1
    go_enter Try.func19, Try.ntmps19
    go_upto_region 1 with (fail)
    rw [← HW.out]
    go_wp2_with fail
    go_returns
    exact ⟨by rw [HZ.out]; rfl, HB1.out⟩
  subst e1
  by_cases e2 : a2 = b2
  case neg =>
    have nb2 : (a2 == b2) = false := by rw [beq_eq_false_iff_ne]; exact e2
    have HZ := Aside0.mk (show r = false by rw [HR.out, decide_eq_false (fun h => e2 h.2.2.1)]; rfl)
    clear e2
    go_enter Try.func19, Try.ntmps19
    go_upto_region 1 with (fail)
    rw [← HW.out]
    go_wp2_with fail
    go_returns
    exact ⟨by rw [HZ.out]; rfl, HB1.out⟩
  subst e2
  by_cases e3 : a3 = b3
  case neg =>
    have nb3 : (a3 == b3) = false := by rw [beq_eq_false_iff_ne]; exact e3
    have HZ := Aside0.mk (show r = false by rw [HR.out, decide_eq_false (fun h => e3 h.2.2.2.1)]; rfl)
    clear e3
    go_enter Try.func19, Try.ntmps19
    go_upto_region 1 with (fail)
    rw [← HW.out]
    go_wp2_with fail
    go_returns
    exact ⟨by rw [HZ.out]; rfl, HB1.out⟩
  subst e3
  by_cases e4 : a4 = b4
  case neg =>
    have nb4 : (a4 == b4) = false := by rw [beq_eq_false_iff_ne]; exact e4
    have HZ := Aside0.mk (show r = false by rw [HR.out, decide_eq_false (fun h => e4 h.2.2.2.2)]; rfl)
    clear e4
    go_enter Try.func19, Try.ntmps19
    go_upto_region 1 with (fail)
    rw [← HW.out]
    go_wp2_with fail
    go_returns
    exact ⟨by rw [HZ.out]; rfl, HB1.out⟩
  subst e4
  have HZ := Aside0.mk (show r = (sw && sv) by rw [HR.out, decide_eq_true ⟨rfl, rfl, rfl, rfl, rfl⟩]; rfl)
  go_enter Try.func19, Try.ntmps19
  go_upto_region 1 with (fail)
  rw [← HW.out]
  go_wp2_with fail
  refine HWS.out.mono ?_
  rintro e w2 ⟨rfl, hd⟩
  have HB2 := Aside0.mk (below_step HB1.out hd)
  have x6 : w2.cell? ⟨W.heap.size, 6, none⟩ = some (.slice A6 l6.length c6) := (blk_cell (blk_below HX.out hd) 6).trans rfl
  have y6 : w2.cell? ⟨W.heap.size + 1, 6, none⟩ = some (.slice B6 m6.length d6) := (blk_cell (blk_below HY.out hd) 6).trans rfl
  have HER2 := Aside0.mk (HER.out w2 hd)
  clear hd HER HWS
  cases sw with
  | false =>
    go_wp2_with fail
    go_returns
    exact ⟨by rw [HZ.out]; rfl, HB2.out⟩
  | true =>
    go_wp2_with fail
    refine HER2.out.mono ?_
    rintro e w3 ⟨rfl, hd⟩
    have HB3 := Aside0.mk (below_step HB2.out hd.below)
    clear hd
    go_wp2_with fail
    go_returns
    exact ⟨by rw [HZ.out]; rfl, HB3.out⟩
end

section
open Go.Shelf Go.RowKit Go.Proofs.YtngjaaldidmgjaaW.PrintWords Go.Proofs.YtngjaaldidmgjaaW.PrintLast Go.Proofs.YtngjaaldidmgjaaW.PrintMore
set_option linter.unusedVariables false
set_option linter.unusedSimpArgs false

set_option maxHeartbeats 1000000 in
set_option maxRecDepth 100000 in
theorem idx_row (A : Option Addr) (n c : Nat) (K : Nat) (lb : Array Value) (p : Nat → Bool) (val : Nat → Value) (w : World) (hA : 0 < n → ∃ ad, A = some ad ∧ ∀ j, j < n → w.cell? (ad.add j) = some (val j)) (hn : n ≤ 9223372036854775807)
    (eg : ∀ args w, (callFunc K args).run Try.prog w = .ok (.enter K args) w)
    (hp : ∀ j W, j < n → Drawn0 w W → Calls Try.prog K (#[val j] ++ lb) W fun e w' => e = .returned (.bool (p j)) ∧ Drawn0 W w') :
    Calls Try.prog 131 #[.slice A n c, .func (.func K) #[] lb] w fun e w' => e = .returned (.int .i64 (firstP p 0 n)) ∧ Drawn0 w w' := by
  have HA := Aside0.mk hA
  have HP := Aside0.mk hp
  clear hA hp
  go_enter Try.func131, Try.ntmps131
  go_wp2
  go_loopg [5, 8] n (fun gg _ s8 wr => ∃ kk q : Nat, kk ≤ n ∧ n - kk ≤ gg ∧ s8 = .int .i64 kk ∧ wr = w.drewN q ∧ Aside0 (firstP p 0 n = firstP p kk (n - kk)))
  case atStart => exact ⟨0, 0, Nat.zero_le _, by omega, rfl, rfl, ⟨rfl⟩⟩
  case round =>
    obtain ⟨kk, q, hkk, hg, rfl, rfl, HF⟩ := hrel
    by_cases hlt : kk < n
    · have hltz : (kk : Int) < (n : Int) := by omega
      obtain ⟨ad, hA, hc⟩ := HA.out (by omega)
      subst hA
      have hcell := hc kk hlt
      clear hc
      have hcall := fun W h => HP.out kk W hlt h
      generalize val kk = y at hcell hcall
      cases hq : p kk with
      | true =>
        rw [hq] at hcall
        have HC := Aside0.mk hcall
        have HQ := Aside0.mk hq
        clear hcall hq
        go_wp2_with (go_at_fn K; refine (HC.out _ ?_).mono ?_; (first | exact ⟨⟨_, rfl⟩⟩ | exact ⟨⟨_, (World.drewN_drewN _ _ _)⟩⟩); rintro e w' ⟨rfl, ⟨⟨q', rfl⟩⟩⟩)
        go_ret
        refine ⟨?_, ⟨⟨_, rfl⟩⟩⟩
        rw [HF.out, firstP_hit HQ.out (by omega)]
        rfl
      | false =>
        rw [hq] at hcall
        have HC := Aside0.mk hcall
        have HQ := Aside0.mk hq
        clear hcall hq
        go_wp2_with (go_at_fn K; refine (HC.out _ ?_).mono ?_; (first | exact ⟨⟨_, rfl⟩⟩ | exact ⟨⟨_, (World.drewN_drewN _ _ _)⟩⟩); rintro e w' ⟨rfl, ⟨⟨q', rfl⟩⟩⟩)
        go_roundg (n - (kk + 1))
        case measure => omega
        case rel => exact ⟨kk + 1, _, by omega, by omega, by go_num, rfl, ⟨by rw [HF.out, firstP_miss HQ.out (by omega), show n - kk - 1 = n - (kk + 1) by omega]⟩⟩
    · have hltz : ¬ (kk : Int) < (n : Int) := by omega
      obtain rfl : kk = n := by omega
      go_wp2
      go_ret
      refine ⟨?_, ⟨⟨q, rfl⟩⟩⟩
      rw [HF.out, Nat.sub_self]
      rfl


set_option maxHeartbeats 1000000 in
set_option maxRecDepth 100000 in
theorem con_row (A : Option Addr) (n c : Nat) (K : Nat) (lb : Array Value) (p : Nat → Bool) (val : Nat → Value) (w : World) (hA : 0 < n → ∃ ad, A = some ad ∧ ∀ j, j < n → w.cell? (ad.add j) = some (val j)) (hn : n ≤ 9223372036854775807)
    (eg : ∀ args w, (callFunc K args).run Try.prog w = .ok (.enter K args) w)
    (hp : ∀ j W, j < n → Drawn0 w W → Calls Try.prog K (#[val j] ++ lb) W fun e w' => e = .returned (.bool (p j)) ∧ Drawn0 W w') :
    Calls Try.prog 123 #[.slice A n c, .func (.func K) #[] lb] w fun e w' => e = .returned (.bool ((List.range' 0 n).any p)) ∧ Drawn0 w w' := by
  have HI := Aside0.mk (idx_row A n c K lb p val w hA hn eg hp)
  have HE := Aside0.mk (firstP_nonneg p n 0)
  clear hA hp
  go_enter Try.func123, Try.ntmps123
  go_wp2_with fail
  refine HI.out.mono ?_
  generalize firstP p 0 n = x at HE
  rintro e w' ⟨rfl, hd⟩
  have HD := Aside0.mk hd
  clear hd
  go_wp2_with fail
  go_returns
  exact ⟨by rw [← HE.out]; rfl, HD.out⟩


theorem add0 (ad : Addr) : ad.add 0 = ad := by
  obtain ⟨b, o, x⟩ := ad
  unfold Addr.add
  split <;> simp_all
/-- May a vector of that many components be? -/
def ofV (v : List Int) (n : Int) : Int := if right v = true then (if (v.length : Int) = n then 0 else 151) else 150

set_option maxHeartbeats 1000000 in
set_option maxRecDepth 100000 in
theorem vec_Of (A : Option Addr) (c : Nat) (l : List Int) (n : Int) (w : World) (hr : Kd.C (Kd.int .i32) w A l.length l) (hc : l.length ≤ c) :
    Calls Try.prog 122 #[.slice A l.length c, .int .i64 n] w fun e w' => e = .returned (.int .i64 (ofV l n)) ∧ Drawn0 w w' := by
  have HC := Aside0.mk (vec_Check.calls A c l (checkV l) w hr hc rfl)
  have hm := Kd.C_max hr
  clear hr hc
  unfold ofV
  unfold checkV at HC
  cases hk : right l with
  | false =>
    rw [hk, if_neg (by decide)] at HC
    rw [if_neg (by decide)]
    clear hk
    go_enter Try.func122, Try.ntmps122
    go_wp2_with fail
    refine HC.out.mono ?_
    rintro e w1 ⟨rfl, ⟨⟨q, rfl⟩⟩⟩
    go_wp2_with fail
    go_returns
    exact ⟨rfl, ⟨⟨q, rfl⟩⟩⟩
  | true =>
    rw [hk, if_pos rfl] at HC
    rw [if_pos rfl]
    clear hk
    by_cases hn : (l.length : Int) = n
    · have hb : ((l.length : Int) != n) = false := by rw [bne_eq_false_iff_eq]; exact hn
      rw [if_pos hn]
      clear hn
      go_enter Try.func122, Try.ntmps122
      go_wp2_with fail
      refine HC.out.mono ?_
      rintro e w1 ⟨rfl, ⟨⟨q, rfl⟩⟩⟩
      go_wp2_with fail
      go_returns
      exact ⟨rfl, ⟨⟨q, rfl⟩⟩⟩
    · have hb : ((l.length : Int) != n) = true := by rw [bne_iff_ne]; exact hn
      rw [if_neg hn]
      clear hn
      go_enter Try.func122, Try.ntmps122
      go_wp2_with fail
      refine HC.out.mono ?_
      rintro e w1 ⟨rfl, ⟨⟨q, rfl⟩⟩⟩
      go_wp2_with fail
      go_returns
      exact ⟨rfl, ⟨⟨q, rfl⟩⟩⟩
/-- May a centroid be beside the first? -/
def okCe (l : List (List Int)) (v : List Int) : Bool := right v && decide (v.length = (l.getD 0 []).length)
theorem ofV_zero (l : List (List Int)) (v : List Int) : (ofV v (((l.getD 0 []).length : Nat) : Int) != 0) = !okCe l v := by
  unfold ofV okCe
  cases right v with
  | false => rfl
  | true =>
    rw [if_pos rfl, Bool.true_and]
    by_cases h : v.length = (l.getD 0 []).length
    · rw [if_pos (by omega), decide_eq_true h]; rfl
    · rw [if_neg (by omega), decide_eq_false h]; rfl

set_option maxHeartbeats 1000000 in
set_option maxRecDepth 100000 in
theorem cent1 (A : Option Addr) (c : Nat) (v : List Int) (B : Nat) (A6 : Option Addr) (c6 : Nat) (l : List (List Int)) (w : World) (hr : Kd.C (Kd.int .i32) w A v.length v) (hc : v.length ≤ c) (hb : w.cell? ⟨B, 0, none⟩ = some (.slice A6 l.length c6)) (h6 : Kd.C kV w A6 l.length l) (h0 : 0 < l.length) :
    Calls Try.prog 121 (#[.slice A v.length c] ++ #[.pointer (some ⟨B, 0, none⟩)]) w fun e w' => e = .returned (.bool (!okCe l v)) ∧ Drawn0 w w' := by
  obtain ⟨ad, A', c', hA, x0, hl, hC⟩ := row_at h6 0 h0
  subst hA
  rw [add0] at x0
  have HV := Aside0.mk (vec_Of A c v (((l.getD 0 []).length : Nat) : Int) w hr hc)
  have HZ := Aside0.mk (ofV_zero l v)
  have hl0 : (0 : Int) < (l.length : Int) := by omega
  clear hr hc h6 hl hC
  generalize ofV v (((l.getD 0 []).length : Nat) : Int) = o at *
  generalize (l.getD 0 []).length = n0 at *
  generalize okCe l v = k at *
  go_enter Try.func121, Try.ntmps121
  go_wp2_with fail
  refine HV.out.mono ?_
  rintro e w1 ⟨rfl, ⟨⟨q, rfl⟩⟩⟩
  go_wp2_with fail
  go_returns
  exact ⟨by rw [← HZ.out]; rfl, ⟨⟨q, rfl⟩⟩⟩
def centOk (l : List (List Int)) : Bool := decide (0 < l.length ∧ l.length ≤ 6) && l.all (okCe l)

set_option maxHeartbeats 2000000 in
set_option maxRecDepth 100000 in
theorem centroids (A : Option Addr) (c : Nat) (l : List (List Int)) (w : World) (hr : Kd.C kV w A l.length l) :
    Calls Try.prog 94 #[.slice A l.length c] w fun e w' => e = .returned (.bool (centOk l)) ∧ Below w.heap.size w w' := by
  obtain ⟨w1, hw1⟩ : ∃ w1, w1 = w.alloc (.cells #[.slice A l.length c] 26) := ⟨_, rfl⟩
  have HB1 := Aside0.mk (show Below w.heap.size w w1 by rw [hw1]; exact (Below.refl _ _).alloc (Nat.le_refl _) _)
  have q0 : w1.cell? ⟨w.heap.size, 0, none⟩ = some (.slice A l.length c) := by rw [hw1]; exact (blk_cell (heap_alloc_new w _) 0).trans rfl
  have HW := Aside0.mk hw1
  have hr1 := Kd.C_below hr HB1.out
  have hm := Kd.C_max hr
  clear hw1
  by_cases h0 : 0 < l.length
  · have hz0 : (0 : Int) < (l.length : Int) := by omega
    by_cases h6 : l.length ≤ 6
    · have hz6 : (l.length : Int) ≤ 6 := by omega
      have hcon := con_row A l.length c 121 #[.pointer (some ⟨w.heap.size, 0, none⟩)] (fun j => !okCe l (l.getD j [])) (fun j => if h : j < l.length then .slice (Classical.choose (Classical.choose_spec (row_at hr1 j h))) (l.getD j []).length (Classical.choose (Classical.choose_spec (Classical.choose_spec (row_at hr1 j h)))) else .bool false) w1 (fun _ => by
          obtain ⟨ad, _, _, hA, _⟩ := row_at hr1 0 h0
          refine ⟨ad, hA, fun j hj => ?_⟩
          have hs := Classical.choose_spec (Classical.choose_spec (Classical.choose_spec (row_at hr1 j hj)))
          rw [dif_pos hj]
          have he := hA.symm.trans hs.1
          injection he with he
          rw [he]
          exact hs.2.1) hm (enters_of Try.func121 (by kernel_rfl) rfl) (fun j W hj hd => by
          have hs := Classical.choose_spec (Classical.choose_spec (Classical.choose_spec (row_at hr1 j hj)))
          rw [dif_pos hj]
          obtain ⟨⟨q, rfl⟩⟩ := hd
          exact cent1 _ _ (l.getD j []) w.heap.size A c l (w1.drewN q) (Kd.C_below hs.2.2.2 (Drawn0.below ⟨⟨q, rfl⟩⟩)) hs.2.2.1 q0 (Kd.C_below hr1 (Drawn0.below ⟨⟨q, rfl⟩⟩)) h0)
      rw [any_at l (fun v => !okCe l v) []] at hcon
      have hc2 : centOk l = l.all (okCe l) := by unfold centOk; rw [decide_eq_true ⟨h0, h6⟩, Bool.true_and]
      have e : (l.any fun v => !okCe l v) = !l.all (okCe l) := by rw [List.not_all_eq_any_not]
      rw [e] at hcon
      rw [hc2]
      have HC := Aside0.mk hcon
      clear hcon hc2 e hr hr1 h0 h6
      generalize l.all (okCe l) = b at *
      go_enter Try.func94, Try.ntmps94
      go_upto_region 1 with (fail)
      rw [← HW.out]
      go_wp2_with fail
      refine HC.out.mono ?_
      rintro e w2 ⟨rfl, ⟨⟨q, rfl⟩⟩⟩
      have HB2 := Aside0.mk (below_step HB1.out (Drawn0.below ⟨⟨q, rfl⟩⟩))
      go_wp2_with fail
      go_returns
      exact ⟨by simp, HB2.out⟩
    · have hz6 : ¬ (l.length : Int) ≤ 6 := by omega
      have hz7 : decide ((l.length : Int) ≤ 6) = false := decide_eq_false hz6
      have hc2 : centOk l = false := by unfold centOk; rw [decide_eq_false (fun h => h6 h.2)]; rfl
      rw [hc2]
      clear hc2 hr hr1 h0 h6
      go_enter Try.func94, Try.ntmps94
      go_upto_region 1 with (fail)
      rw [← HW.out]
      go_wp2_with fail
      go_returns
      exact ⟨rfl, HB1.out⟩
  · have hz0 : ¬ (0 : Int) < (l.length : Int) := by omega
    have hz1 : decide ((0 : Int) < (l.length : Int)) = false := decide_eq_false hz0
    have hc2 : centOk l = false := by unfold centOk; rw [decide_eq_false (fun h => h0 h.1)]; rfl
    rw [hc2]
    clear hc2 hr hr1 h0
    go_enter Try.func94, Try.ntmps94
    go_upto_region 1 with (fail)
    rw [← HW.out]
    go_wp2_with fail
    go_returns
    exact ⟨rfl, HB1.out⟩
end

section
open Go.Shelf Go.RowKit Go.Proofs.YtngjaaldidmgjaaW.PrintWords Go.Proofs.YtngjaaldidmgjaaW.PrintLast Go.Proofs.YtngjaaldidmgjaaW.PrintMore
set_option linter.unusedVariables false
set_option linter.unusedSimpArgs false

theorem or_isK (k : Nat) (s t : Int) : P.cmp_Or_int.f (k + 3) [s, t] = some (if s ≠ 0 then s else t) := by
  have e0 : rd [s, t] 0 = s := rfl
  have e1 : rd [s, t] 1 = t := rfl
  have w1 : wrap64 (0 + 1) = 1 := by rw [w64 (by omega) (by omega)]; rfl
  have w2 : wrap64 (1 + 1) = 2 := by rw [w64 (by omega) (by omega)]; rfl
  unfold P.cmp_Or_int.f
  rw [P.cmp_Or_int.l0, if_pos (by simp), if_pos (by omega), if_pos (by simp), e0]
  by_cases hs : s = 0
  · rw [if_pos hs, if_neg (fun h => h hs), w1, P.cmp_Or_int.l0, if_pos (by simp), if_pos (by omega), if_pos (by simp), e1]
    by_cases ht : t = 0
    · rw [if_pos ht, w2, P.cmp_Or_int.l0, if_neg (by simp), ht]
    · rw [if_neg ht]
  · rw [if_neg hs, if_pos hs]
theorem cmpw_isK (k : Nat) (x y : Wr) : P.writes_compare.f (k + 3) x.f0 x.f1 x.f2 x.f3 y.f0 y.f1 y.f2 y.f3 = some (cmpW x y) := by
  unfold P.writes_compare.f cmpW
  rw [comparei_is, compare_is, Option.bind_some, Option.bind_some, or_isK, Option.bind_some]
def okColl (n : Int) : Bool := decide (0 ≤ n ∧ n < 3)
def okTs (n : Int) : Bool := decide (1 ≤ n ∧ n ≤ 1099511627776)
theorem coll_is (n : Int) : P.record_coll.f n = some (okColl n) ∧ P.writes_coll.f n = some (okColl n) := by
  unfold P.record_coll.f P.writes_coll.f okColl
  by_cases h : n ≥ 0
  · rw [if_pos h]; constructor <;> (congr 1; exact decide_eq_decide.mpr ⟨fun h2 => ⟨h, h2⟩, fun h2 => h2.2⟩)
  · rw [if_neg h, decide_eq_false (fun h2 => h h2.1)]; exact ⟨rfl, rfl⟩
theorem ts_is (n : Int) : P.record_ts.f n = some (okTs n) := by
  unfold P.record_ts.f okTs
  by_cases h : n ≥ 1
  · rw [if_pos h]; congr 1; exact decide_eq_decide.mpr ⟨fun h2 => ⟨h, h2⟩, fun h2 => h2.2⟩
  · rw [if_neg h, decide_eq_false (fun h2 => h h2.1)]
/-- May a write be? -/
def wrOk (x : Wr) : Bool := okColl x.f0 && (if x.f2 = true then decide (x.f3.length = 0) else right x.f3)
theorem wrok_is (x : Wr) : P.writes_right.f x.f0 x.f1 x.f2 x.f3 = some (wrOk x) := by
  unfold P.writes_right.f wrOk
  rw [(coll_is x.f0).2, Option.bind_some]
  cases okColl x.f0 with
  | false => rfl
  | true =>
    rw [if_pos rfl, Bool.true_and]
    cases x.f2 with
    | true =>
      rw [if_pos rfl, if_pos rfl]
      by_cases h : x.f3.length = 0
      · rw [if_pos (by omega), decide_eq_true h]
      · rw [if_neg (by omega), decide_eq_false h]
    | false =>
      rw [if_neg (by decide), if_neg (by decide), vec_Check.f, Option.bind_some]
      unfold checkV
      cases right x.f3 <;> rfl
def stepOk (l : List Wr) (i : Nat) : Bool := wrOk (wrAt l i) && (decide (i = 0) || decide (cmpW (wrAt l (i - 1)) (wrAt l i) < 0))
def wrsOk (l : List Wr) : Bool := decide (l.length ≤ 12) && (List.range' 0 l.length).all (stepOk l)
theorem wrs_l0 (l : List Wr) (hl : l.length ≤ 9223372036854775807) : ∀ (d i k : Nat) (b : Bool), i + d = l.length → d + 3 < k →
    P.writes_Check.l0 k l b l (l.length : Int) (i : Int) = some (if (b && (List.range' i d).all (stepOk l)) = true then 0 else 260) := by
  intro d
  induction d with
  | zero =>
    intro i k b hi hk
    obtain ⟨k', rfl⟩ : ∃ k', k = k' + 1 := ⟨k - 1, by omega⟩
    rw [P.writes_Check.l0, if_neg (by omega)]
    cases b <;> rfl
  | succ d ih =>
    intro i k b hi hk
    obtain ⟨k', rfl⟩ : ∃ k', k = k' + 3 + 1 := ⟨k - 4, by omega⟩
    have e1 : wrap64 ((i : Int) + 1) = ((i + 1 : Nat) : Int) := by rw [w64 (by omega) (by omega)]; omega
    rw [P.writes_Check.l0, if_pos (by omega), if_pos (by omega), if_pos (by omega), e1, List.range'_succ, List.all_cons]
    show (if b = true then ((P.writes_right.f (wrAt l i).f0 (wrAt l i).f1 (wrAt l i).f2 (wrAt l i).f3).bind _) else _) = _
    cases b with
    | false => rw [if_neg (by decide), ih (i + 1) _ false (by omega) (by omega)]; rfl
    | true =>
      rw [if_pos rfl, wrok_is, Option.bind_some, Bool.true_and]
      unfold stepOk
      cases hw : wrOk (wrAt l i) with
      | false => rw [if_neg (by decide), ih (i + 1) _ false (by omega) (by omega)]; rfl
      | true =>
        rw [if_pos rfl, Bool.true_and]
        by_cases h0 : i = 0
        · subst h0
          rw [if_pos (show ((0 : Nat) : Int) = 0 from rfl), ih 1 _ true (by omega) (by omega)]; rfl
        · have e2 : wrap64 ((i : Int) - 1) = ((i - 1 : Nat) : Int) := by rw [w64 (by omega) (by omega)]; omega
          rw [if_neg (by omega), e2, if_pos (by omega), if_pos (by omega)]
          show ((P.writes_compare.f (k' + 3) (wrAt l (i - 1)).f0 (wrAt l (i - 1)).f1 (wrAt l (i - 1)).f2 (wrAt l (i - 1)).f3 (wrAt l i).f0 (wrAt l i).f1 (wrAt l i).f2 (wrAt l i).f3).bind _) = _
          rw [cmpw_isK, Option.bind_some, ih (i + 1) _ _ (by omega) (by omega), decide_eq_false h0, Bool.false_or]
          rfl
theorem wrs_is (l : List Wr) (hl : l.length ≤ 9223372036854775807) : P.writes_Check.f (l.length + 5) l = some (if wrsOk l = true then 0 else 260) := by
  unfold P.writes_Check.f wrsOk
  have := wrs_l0 l hl l.length 0 (l.length + 5) (decide ((l.length : Int) ≤ 12)) (by omega) (by omega)
  rw [show (0 : Int) = ((0 : Nat) : Int) from rfl, this]
  congr 3
  by_cases h : l.length ≤ 12
  · rw [decide_eq_true h, decide_eq_true (by omega)]
  · rw [decide_eq_false h, decide_eq_false (by omega)]
/-- What counts of a record. -/
def okR (a0 a1 a2 a3 a4 : Int) (l5 : List Wr) (l6 : List (List Int)) : Bool :=
  if a0 = 1 then okTs a1 && (decide (0 < l5.length) && wrsOk l5)
  else if a0 = 2 then okColl a3 && (decide (1 ≤ a4) && decide (a4 ≤ 4))
  else if a0 = 3 then okColl a3
  else if a0 = 4 then okColl a3 && centOk l6
  else if a0 = 5 then okTs a2
  else false
/-- What must be none. -/
def lf1 (a0 a1 : Int) : Int := if a0 = 1 then 0 else a1
def lf2 (a0 a2 : Int) : Int := if a0 = 5 then 0 else a2
def lf3 (a0 a3 : Int) : Int := if a0 = 2 ∨ a0 = 3 ∨ a0 = 4 then 0 else a3
def lf4 (a0 a4 : Int) : Int := if a0 = 2 then 0 else a4
def lf5 (a0 : Int) (l5 : List Wr) : List Wr := if a0 = 1 then [] else l5
def lf6 (a0 : Int) (l6 : List (List Int)) : List (List Int) := if a0 = 4 then [] else l6
def recOk (r : Rc) : Bool := okR r.f0 r.f1 r.f2 r.f3 r.f4 r.f5 r.f6 && (decide (lf1 r.f0 r.f1 = 0 ∧ lf2 r.f0 r.f2 = 0 ∧ lf3 r.f0 r.f3 = 0 ∧ lf4 r.f0 r.f4 = 0) && (decide (lf5 r.f0 r.f5 = []) && decide (lf6 r.f0 r.f6 = [])))
end

section
open Go.Shelf Go.RowKit Go.Proofs.YtngjaaldidmgjaaW.PrintWords Go.Proofs.YtngjaaldidmgjaaW.PrintLast Go.Proofs.YtngjaaldidmgjaaW.PrintMore
set_option linter.unusedVariables false
set_option linter.unusedSimpArgs false

/-- The cells of what must be none. -/
def lfC (a0 a1 a2 a3 a4 : Int) (A5 : Option Addr) (c5 : Nat) (l5 : List Wr) (A6 : Option Addr) (c6 : Nat) (l6 : List (List Int)) : Array Value :=
  #[.int .i64 0, .int .u64 (lf1 a0 a1), .int .u64 (lf2 a0 a2), .int .i64 (lf3 a0 a3), .int .i64 (lf4 a0 a4), if a0 = 1 then .slice none 0 0 else .slice A5 l5.length c5, if a0 = 4 then .slice none 0 0 else .slice A6 l6.length c6]
set_option maxHeartbeats 16000000 in
set_option maxRecDepth 100000 in
theorem recCheck (a0 a1 a2 a3 a4 : Int) (l5 : List Wr) (l6 : List (List Int)) (A5 : Option Addr) (c5 : Nat) (A6 : Option Addr) (c6 : Nat) (W : World) (h5 : Kd.C kW W A5 l5.length l5) (hc5 : l5.length ≤ c5) (h6 : Kd.C kV W A6 l6.length l6) :
    Calls Try.prog 50 #[.agg #[.int .i64 a0, .int .u64 a1, .int .u64 a2, .int .i64 a3, .int .i64 a4, .slice A5 l5.length c5, .slice A6 l6.length c6]] W fun e w' => e = .returned (.int .i64 (if recOk ⟨a0, a1, a2, a3, a4, l5, l6⟩ = true then 0 else 340)) ∧ Below W.heap.size W w' := by
  obtain ⟨w1, hw1⟩ : ∃ w1, w1 = (W.alloc (.cells #[.int .i64 a0, .int .u64 a1, .int .u64 a2, .int .i64 a3, .int .i64 a4, .slice A5 l5.length c5, .slice A6 l6.length c6] 28)).alloc (.cells #[.int .i64 0, .int .u64 a1, .int .u64 a2, .int .i64 a3, .int .i64 a4, .slice A5 l5.length c5, .slice A6 l6.length c6] 28) := ⟨_, rfl⟩
  have hsz : (W.alloc (.cells #[.int .i64 a0, .int .u64 a1, .int .u64 a2, .int .i64 a3, .int .i64 a4, .slice A5 l5.length c5, .slice A6 l6.length c6] 28)).heap.size = W.heap.size + 1 := by simp
  have HB1 := Aside0.mk (show Below W.heap.size W w1 by rw [hw1]; exact ((Below.refl _ _).alloc (Nat.le_refl _) _).alloc (by simp) _)
  have HX := Aside0.mk (show w1.heap[W.heap.size]? = some (.cells #[.int .i64 a0, .int .u64 a1, .int .u64 a2, .int .i64 a3, .int .i64 a4, .slice A5 l5.length c5, .slice A6 l6.length c6] 28 (0, 0)) by rw [hw1]; exact (Below.heap_alloc _ _ _ (by simp)).trans (heap_alloc_new W _))
  have HL := Aside0.mk (show w1.heap[W.heap.size + 1]? = some (.cells #[.int .i64 0, .int .u64 a1, .int .u64 a2, .int .i64 a3, .int .i64 a4, .slice A5 l5.length c5, .slice A6 l6.length c6] 28 (0, 0)) by rw [hw1, ← hsz]; exact heap_alloc_new _ _)
  have HW := Aside0.mk hw1
  have H5 := Aside0.mk h5
  have H6 := Aside0.mk h6
  have HC5 := Aside0.mk hc5
  have hm5 := Kd.C_max h5
  clear hw1 hsz h5 h6 hc5
  obtain ⟨r, hr⟩ : ∃ r, r = recOk ⟨a0, a1, a2, a3, a4, l5, l6⟩ := ⟨_, rfl⟩
  rw [← hr]
  obtain ⟨rv, hrv⟩ : ∃ rv : Int, rv = if r = true then 0 else 340 := ⟨_, rfl⟩
  rw [← hrv]
  have HRV := Aside0.mk hrv
  clear hrv
  have HR := Aside0.mk (show r = (okR a0 a1 a2 a3 a4 l5 l6 && (decide (lf1 a0 a1 = 0 ∧ lf2 a0 a2 = 0 ∧ lf3 a0 a3 = 0 ∧ lf4 a0 a4 = 0) && (decide (lf5 a0 l5 = []) && decide (lf6 a0 l6 = [])))) from hr)
  clear hr
  have x0 : w1.cell? ⟨W.heap.size, 0, none⟩ = some (.int .i64 a0) := (blk_cell HX.out 0).trans rfl
  have x1 : w1.cell? ⟨W.heap.size, 1, none⟩ = some (.int .u64 a1) := (blk_cell HX.out 1).trans rfl
  have x2 : w1.cell? ⟨W.heap.size, 2, none⟩ = some (.int .u64 a2) := (blk_cell HX.out 2).trans rfl
  have x3 : w1.cell? ⟨W.heap.size, 3, none⟩ = some (.int .i64 a3) := (blk_cell HX.out 3).trans rfl
  have x4 : w1.cell? ⟨W.heap.size, 4, none⟩ = some (.int .i64 a4) := (blk_cell HX.out 4).trans rfl
  have x5 : w1.cell? ⟨W.heap.size, 5, none⟩ = some (.slice A5 l5.length c5) := (blk_cell HX.out 5).trans rfl
  have x6 : w1.cell? ⟨W.heap.size, 6, none⟩ = some (.slice A6 l6.length c6) := (blk_cell HX.out 6).trans rfl
  go_enter Try.func50, Try.ntmps50
  go_upto_region 4 with (fail)
  rw [← HW.out]
  go_upto_block 0 with (fail)
  go_cut [3] (fun v3 wc => v3 = .bool (okR a0 a1 a2 a3 a4 l5 l6) ∧ Aside0 (Below w1.heap.size W wc ∨ True) ∧ Aside0 (Below W.heap.size W wc) ∧ Aside0 (wc.heap[W.heap.size + 1]? = some (.cells (lfC a0 a1 a2 a3 a4 A5 c5 l5 A6 c6 l6) 28 (0, 0))))
  case first =>
    by_cases k1 : a0 = 1
    case pos =>
      subst k1
      have HLF := Aside0.mk (show lfC 1 a1 a2 a3 a4 A5 c5 l5 A6 c6 l6 = #[.int .i64 0, .int .u64 0, .int .u64 a2, .int .i64 a3, .int .i64 a4, .slice none 0 0, .slice A6 l6.length c6] from rfl)
      have HO := Aside0.mk (show okR 1 a1 a2 a3 a4 l5 l6 = (okTs a1 && (decide (0 < l5.length) && wrsOk l5)) from rfl)
      have HTS := Aside0.mk (P.record_ts.calls a1 (okTs a1) w1 (ts_is a1))
      generalize okTs a1 = t at *
      go_wp2_with fail
      refine HTS.out.mono ?_
      rintro e w2 ⟨rfl, hd⟩
      have HB2 := Aside0.mk (below_step HB1.out hd.below)
      have HX2 := Aside0.mk (blk_below HX.out hd.below)
      have HL2 := Aside0.mk (blk_below HL.out hd.below)
      have x5 : w2.cell? ⟨W.heap.size, 5, none⟩ = some (.slice A5 l5.length c5) := (blk_cell HX2.out 5).trans rfl
      have z1 : w2.cell? ⟨W.heap.size + 1, 1, none⟩ = some (.int .u64 a1) := (blk_cell HL2.out 1).trans rfl
      have y1 : w2.frozen? ⟨W.heap.size + 1, 1, none⟩ = false := blk_frozen HL2.out 1
      have z5 : w2.cell? ⟨W.heap.size + 1, 5, none⟩ = some (.slice A5 l5.length c5) := (blk_cell HL2.out 5).trans rfl
      have y5 : w2.frozen? ⟨W.heap.size + 1, 5, none⟩ = false := blk_frozen HL2.out 5
      clear hd
      cases t with
      | false =>
        go_wp2_with fail
        go_meet
        exact ⟨by rw [HO.out, Bool.false_and], ⟨.inr trivial⟩, ⟨((HB2.out.setCell (p := ⟨W.heap.size + 1, 1, none⟩) (by show W.heap.size ≤ W.heap.size + 1; omega) _).setCell (p := ⟨W.heap.size + 1, 5, none⟩) (by show W.heap.size ≤ W.heap.size + 1; omega) _)⟩, ⟨by rw [HLF.out]; exact (blk_put (blk_put HL2.out 1 _ rfl) 5 _ rfl)⟩⟩
      | true =>
        by_cases h0 : 0 < l5.length
        case neg =>
          have hz0 : decide ((0 : Int) < (l5.length : Int)) = false := decide_eq_false (by omega)
          have hz1 : decide (0 < l5.length) = false := decide_eq_false h0
          have HO2 := Aside0.mk (show okR 1 a1 a2 a3 a4 l5 l6 = false by rw [HO.out, decide_eq_false h0]; rfl)
          clear h0
          go_wp2_with fail
          go_meet
          exact ⟨by rw [HO2.out], ⟨.inr trivial⟩, ⟨((HB2.out.setCell (p := ⟨W.heap.size + 1, 1, none⟩) (by show W.heap.size ≤ W.heap.size + 1; omega) _).setCell (p := ⟨W.heap.size + 1, 5, none⟩) (by show W.heap.size ≤ W.heap.size + 1; omega) _)⟩, ⟨by rw [HLF.out]; exact (blk_put (blk_put HL2.out 1 _ rfl) 5 _ rfl)⟩⟩
        have hz0 : (0 : Int) < (l5.length : Int) := by omega
        have HO2 := Aside0.mk (show okR 1 a1 a2 a3 a4 l5 l6 = wrsOk l5 by rw [HO.out, decide_eq_true h0]; rfl)
        have HCK := Aside0.mk (P.writes_Check.calls (l5.length + 5) A5 c5 l5 (if wrsOk l5 = true then 0 else 260) w2 (Kd.C_below H5.out HB2.out) HC5.out (wrs_is l5 hm5))
        generalize wrsOk l5 = s at *
        clear h0
        cases s with
        | true =>
          rw [if_pos rfl] at HCK
          go_wp2_with fail
          refine HCK.out.mono ?_
          rintro e w3 ⟨rfl, hd⟩
          have HB3 := Aside0.mk (below_step HB2.out hd)
          have HX3 := Aside0.mk (blk_below HX2.out hd)
          have HL3 := Aside0.mk (blk_below HL2.out hd)
          have z1 : w3.cell? ⟨W.heap.size + 1, 1, none⟩ = some (.int .u64 a1) := (blk_cell HL3.out 1).trans rfl
          have y1 : w3.frozen? ⟨W.heap.size + 1, 1, none⟩ = false := blk_frozen HL3.out 1
          have z5 : w3.cell? ⟨W.heap.size + 1, 5, none⟩ = some (.slice A5 l5.length c5) := (blk_cell HL3.out 5).trans rfl
          have y5 : w3.frozen? ⟨W.heap.size + 1, 5, none⟩ = false := blk_frozen HL3.out 5
          clear hd
          go_wp2_with fail
          go_meet
          exact ⟨by rw [HO2.out], ⟨.inr trivial⟩, ⟨((HB3.out.setCell (p := ⟨W.heap.size + 1, 1, none⟩) (by show W.heap.size ≤ W.heap.size + 1; omega) _).setCell (p := ⟨W.heap.size + 1, 5, none⟩) (by show W.heap.size ≤ W.heap.size + 1; omega) _)⟩, ⟨by rw [HLF.out]; exact (blk_put (blk_put HL3.out 1 _ rfl) 5 _ rfl)⟩⟩
        | false =>
          rw [if_neg (by decide)] at HCK
          go_wp2_with fail
          refine HCK.out.mono ?_
          rintro e w3 ⟨rfl, hd⟩
          have HB3 := Aside0.mk (below_step HB2.out hd)
          have HX3 := Aside0.mk (blk_below HX2.out hd)
          have HL3 := Aside0.mk (blk_below HL2.out hd)
          have z1 : w3.cell? ⟨W.heap.size + 1, 1, none⟩ = some (.int .u64 a1) := (blk_cell HL3.out 1).trans rfl
          have y1 : w3.frozen? ⟨W.heap.size + 1, 1, none⟩ = false := blk_frozen HL3.out 1
          have z5 : w3.cell? ⟨W.heap.size + 1, 5, none⟩ = some (.slice A5 l5.length c5) := (blk_cell HL3.out 5).trans rfl
          have y5 : w3.frozen? ⟨W.heap.size + 1, 5, none⟩ = false := blk_frozen HL3.out 5
          clear hd
          go_wp2_with fail
          go_meet
          exact ⟨by rw [HO2.out], ⟨.inr trivial⟩, ⟨((HB3.out.setCell (p := ⟨W.heap.size + 1, 1, none⟩) (by show W.heap.size ≤ W.heap.size + 1; omega) _).setCell (p := ⟨W.heap.size + 1, 5, none⟩) (by show W.heap.size ≤ W.heap.size + 1; omega) _)⟩, ⟨by rw [HLF.out]; exact (blk_put (blk_put HL3.out 1 _ rfl) 5 _ rfl)⟩⟩
    by_cases k2 : a0 = 2
    case pos =>
      subst k2
      have HLF := Aside0.mk (show lfC 2 a1 a2 a3 a4 A5 c5 l5 A6 c6 l6 = #[.int .i64 0, .int .u64 a1, .int .u64 a2, .int .i64 0, .int .i64 0, .slice A5 l5.length c5, .slice A6 l6.length c6] from rfl)
      have HTS := Aside0.mk (P.record_coll.calls a3 (okColl a3) w1 (coll_is a3).1)
      have HO := Aside0.mk (show okR 2 a1 a2 a3 a4 l5 l6 = (okColl a3 && (decide (1 ≤ a4) && decide (a4 ≤ 4))) from rfl)
      generalize okColl a3 = t at *
      go_wp2_with fail
      refine HTS.out.mono ?_
      rintro e w2 ⟨rfl, hd⟩
      have HB2 := Aside0.mk (below_step HB1.out hd.below)
      have HX2 := Aside0.mk (blk_below HX.out hd.below)
      have HL2 := Aside0.mk (blk_below HL.out hd.below)
      have x4 : w2.cell? ⟨W.heap.size, 4, none⟩ = some (.int .i64 a4) := (blk_cell HX2.out 4).trans rfl
      have x6 : w2.cell? ⟨W.heap.size, 6, none⟩ = some (.slice A6 l6.length c6) := (blk_cell HX2.out 6).trans rfl
      have z3 : w2.cell? ⟨W.heap.size + 1, 3, none⟩ = some (.int .i64 a3) := (blk_cell HL2.out 3).trans rfl
      have y3 : w2.frozen? ⟨W.heap.size + 1, 3, none⟩ = false := blk_frozen HL2.out 3
      have z4 : w2.cell? ⟨W.heap.size + 1, 4, none⟩ = some (.int .i64 a4) := (blk_cell HL2.out 4).trans rfl
      have y4 : w2.frozen? ⟨W.heap.size + 1, 4, none⟩ = false := blk_frozen HL2.out 4
      clear hd
      cases t with
      | false =>
        go_wp2_with fail
        go_meet
        exact ⟨by rw [HO.out, Bool.false_and], ⟨.inr trivial⟩, ⟨((HB2.out.setCell (p := ⟨W.heap.size + 1, 3, none⟩) (by show W.heap.size ≤ W.heap.size + 1; omega) _).setCell (p := ⟨W.heap.size + 1, 4, none⟩) (by show W.heap.size ≤ W.heap.size + 1; omega) _)⟩, ⟨by rw [HLF.out]; exact (blk_put (blk_put HL2.out 3 _ rfl) 4 _ rfl)⟩⟩
      | true =>
        by_cases h1 : 1 ≤ a4
        case neg =>
          have b1 : decide (1 ≤ a4) = false := decide_eq_false h1
          have HO2 := Aside0.mk (show okR 2 a1 a2 a3 a4 l5 l6 = false by rw [HO.out, b1]; rfl)
          clear h1
          go_wp2_with fail
          go_meet
          exact ⟨by rw [HO2.out], ⟨.inr trivial⟩, ⟨((HB2.out.setCell (p := ⟨W.heap.size + 1, 3, none⟩) (by show W.heap.size ≤ W.heap.size + 1; omega) _).setCell (p := ⟨W.heap.size + 1, 4, none⟩) (by show W.heap.size ≤ W.heap.size + 1; omega) _)⟩, ⟨by rw [HLF.out]; exact (blk_put (blk_put HL2.out 3 _ rfl) 4 _ rfl)⟩⟩
        have HO2 := Aside0.mk (show okR 2 a1 a2 a3 a4 l5 l6 = decide (a4 ≤ 4) by rw [HO.out, decide_eq_true h1]; rfl)
        go_wp2_with fail
        go_meet
        exact ⟨by rw [HO2.out], ⟨.inr trivial⟩, ⟨((HB2.out.setCell (p := ⟨W.heap.size + 1, 3, none⟩) (by show W.heap.size ≤ W.heap.size + 1; omega) _).setCell (p := ⟨W.heap.size + 1, 4, none⟩) (by show W.heap.size ≤ W.heap.size + 1; omega) _)⟩, ⟨by rw [HLF.out]; exact (blk_put (blk_put HL2.out 3 _ rfl) 4 _ rfl)⟩⟩
    by_cases k3 : a0 = 3
    case pos =>
      subst k3
      have HLF := Aside0.mk (show lfC 3 a1 a2 a3 a4 A5 c5 l5 A6 c6 l6 = #[.int .i64 0, .int .u64 a1, .int .u64 a2, .int .i64 0, .int .i64 a4, .slice A5 l5.length c5, .slice A6 l6.length c6] from rfl)
      have HTS := Aside0.mk (P.record_coll.calls a3 (okColl a3) w1 (coll_is a3).1)
      have HO := Aside0.mk (show okR 3 a1 a2 a3 a4 l5 l6 = okColl a3 from rfl)
      generalize okColl a3 = t at *
      go_wp2_with fail
      refine HTS.out.mono ?_
      rintro e w2 ⟨rfl, hd⟩
      have HB2 := Aside0.mk (below_step HB1.out hd.below)
      have HX2 := Aside0.mk (blk_below HX.out hd.below)
      have HL2 := Aside0.mk (blk_below HL.out hd.below)
      have x4 : w2.cell? ⟨W.heap.size, 4, none⟩ = some (.int .i64 a4) := (blk_cell HX2.out 4).trans rfl
      have x6 : w2.cell? ⟨W.heap.size, 6, none⟩ = some (.slice A6 l6.length c6) := (blk_cell HX2.out 6).trans rfl
      have z3 : w2.cell? ⟨W.heap.size + 1, 3, none⟩ = some (.int .i64 a3) := (blk_cell HL2.out 3).trans rfl
      have y3 : w2.frozen? ⟨W.heap.size + 1, 3, none⟩ = false := blk_frozen HL2.out 3
      clear hd
      go_wp2_with fail
      go_meet
      exact ⟨by rw [HO.out], ⟨.inr trivial⟩, ⟨(HB2.out.setCell (p := ⟨W.heap.size + 1, 3, none⟩) (by show W.heap.size ≤ W.heap.size + 1; omega) _)⟩, ⟨by rw [HLF.out]; exact (blk_put HL2.out 3 _ rfl)⟩⟩
    by_cases k4 : a0 = 4
    case pos =>
      subst k4
      have HLF := Aside0.mk (show lfC 4 a1 a2 a3 a4 A5 c5 l5 A6 c6 l6 = #[.int .i64 0, .int .u64 a1, .int .u64 a2, .int .i64 0, .int .i64 a4, .slice A5 l5.length c5, .slice none 0 0] from rfl)
      have HTS := Aside0.mk (P.record_coll.calls a3 (okColl a3) w1 (coll_is a3).1)
      have HO := Aside0.mk (show okR 4 a1 a2 a3 a4 l5 l6 = (okColl a3 && centOk l6) from rfl)
      generalize okColl a3 = t at *
      go_wp2_with fail
      refine HTS.out.mono ?_
      rintro e w2 ⟨rfl, hd⟩
      have HB2 := Aside0.mk (below_step HB1.out hd.below)
      have HX2 := Aside0.mk (blk_below HX.out hd.below)
      have HL2 := Aside0.mk (blk_below HL.out hd.below)
      have x4 : w2.cell? ⟨W.heap.size, 4, none⟩ = some (.int .i64 a4) := (blk_cell HX2.out 4).trans rfl
      have x6 : w2.cell? ⟨W.heap.size, 6, none⟩ = some (.slice A6 l6.length c6) := (blk_cell HX2.out 6).trans rfl
      have z3 : w2.cell? ⟨W.heap.size + 1, 3, none⟩ = some (.int .i64 a3) := (blk_cell HL2.out 3).trans rfl
      have y3 : w2.frozen? ⟨W.heap.size + 1, 3, none⟩ = false := blk_frozen HL2.out 3
      have z6 : w2.cell? ⟨W.heap.size + 1, 6, none⟩ = some (.slice A6 l6.length c6) := (blk_cell HL2.out 6).trans rfl
      have y6 : w2.frozen? ⟨W.heap.size + 1, 6, none⟩ = false := blk_frozen HL2.out 6
      clear hd
      cases t with
      | false =>
        go_wp2_with fail
        go_meet
        exact ⟨by rw [HO.out, Bool.false_and], ⟨.inr trivial⟩, ⟨((HB2.out.setCell (p := ⟨W.heap.size + 1, 3, none⟩) (by show W.heap.size ≤ W.heap.size + 1; omega) _).setCell (p := ⟨W.heap.size + 1, 6, none⟩) (by show W.heap.size ≤ W.heap.size + 1; omega) _)⟩, ⟨by rw [HLF.out]; exact (blk_put (blk_put HL2.out 3 _ rfl) 6 _ rfl)⟩⟩
      | true =>
        have HCK := Aside0.mk (centroids A6 c6 l6 w2 (Kd.C_below H6.out HB2.out))
        generalize centOk l6 = s at *
        go_wp2_with fail
        refine HCK.out.mono ?_
        rintro e w3 ⟨rfl, hd⟩
        have HB3 := Aside0.mk (below_step HB2.out hd)
        have HX3 := Aside0.mk (blk_below HX2.out hd)
        have HL3 := Aside0.mk (blk_below HL2.out hd)
        have z3 : w3.cell? ⟨W.heap.size + 1, 3, none⟩ = some (.int .i64 a3) := (blk_cell HL3.out 3).trans rfl
        have y3 : w3.frozen? ⟨W.heap.size + 1, 3, none⟩ = false := blk_frozen HL3.out 3
        have z6 : w3.cell? ⟨W.heap.size + 1, 6, none⟩ = some (.slice A6 l6.length c6) := (blk_cell HL3.out 6).trans rfl
        have y6 : w3.frozen? ⟨W.heap.size + 1, 6, none⟩ = false := blk_frozen HL3.out 6
        clear hd
        go_wp2_with fail
        go_meet
        exact ⟨by rw [HO.out, Bool.true_and], ⟨.inr trivial⟩, ⟨((HB3.out.setCell (p := ⟨W.heap.size + 1, 3, none⟩) (by show W.heap.size ≤ W.heap.size + 1; omega) _).setCell (p := ⟨W.heap.size + 1, 6, none⟩) (by show W.heap.size ≤ W.heap.size + 1; omega) _)⟩, ⟨by rw [HLF.out]; exact (blk_put (blk_put HL3.out 3 _ rfl) 6 _ rfl)⟩⟩
    by_cases k5 : a0 = 5
    case pos =>
      subst k5
      have HLF := Aside0.mk (show lfC 5 a1 a2 a3 a4 A5 c5 l5 A6 c6 l6 = #[.int .i64 0, .int .u64 a1, .int .u64 0, .int .i64 a3, .int .i64 a4, .slice A5 l5.length c5, .slice A6 l6.length c6] from rfl)
      have HO := Aside0.mk (show okR 5 a1 a2 a3 a4 l5 l6 = okTs a2 from rfl)
      have HTS := Aside0.mk (P.record_ts.calls a2 (okTs a2) w1 (ts_is a2))
      generalize okTs a2 = t at *
      go_wp2_with fail
      refine HTS.out.mono ?_
      rintro e w2 ⟨rfl, hd⟩
      have HB2 := Aside0.mk (below_step HB1.out hd.below)
      have HX2 := Aside0.mk (blk_below HX.out hd.below)
      have HL2 := Aside0.mk (blk_below HL.out hd.below)
      have z2 : w2.cell? ⟨W.heap.size + 1, 2, none⟩ = some (.int .u64 a2) := (blk_cell HL2.out 2).trans rfl
      have y2 : w2.frozen? ⟨W.heap.size + 1, 2, none⟩ = false := blk_frozen HL2.out 2
      clear hd
      go_wp2_with fail
      go_meet
      exact ⟨by rw [HO.out], ⟨.inr trivial⟩, ⟨(HB2.out.setCell (p := ⟨W.heap.size + 1, 2, none⟩) (by show W.heap.size ≤ W.heap.size + 1; omega) _)⟩, ⟨by rw [HLF.out]; exact (blk_put HL2.out 2 _ rfl)⟩⟩
    have n1 : (a0 == 1) = false := by rw [beq_eq_false_iff_ne]; exact k1
    have n2 : (a0 == 2) = false := by rw [beq_eq_false_iff_ne]; exact k2
    have n3 : (a0 == 3) = false := by rw [beq_eq_false_iff_ne]; exact k3
    have n4 : (a0 == 4) = false := by rw [beq_eq_false_iff_ne]; exact k4
    have n5 : (a0 == 5) = false := by rw [beq_eq_false_iff_ne]; exact k5
    have HO := Aside0.mk (show okR a0 a1 a2 a3 a4 l5 l6 = false by unfold okR; rw [if_neg k1, if_neg k2, if_neg k3, if_neg k4, if_neg k5])
    have HLF := Aside0.mk (show lfC a0 a1 a2 a3 a4 A5 c5 l5 A6 c6 l6 = #[.int .i64 0, .int .u64 a1, .int .u64 a2, .int .i64 a3, .int .i64 a4, .slice A5 l5.length c5, .slice A6 l6.length c6] by unfold lfC lf1 lf2 lf3 lf4; rw [if_neg k1, if_neg k5, if_neg (by omega), if_neg k2, if_neg k1, if_neg k4])
    clear k1 k2 k3 k4 k5
    go_wp2_with fail
    go_meet
    exact ⟨by rw [HO.out], ⟨.inr trivial⟩, ⟨HB1.out⟩, ⟨by rw [HLF.out]; exact HL.out⟩⟩
  case rest =>
  obtain ⟨rfl, _, HBc, HLc⟩ := hcut
  obtain ⟨A5', c5', e5, g5⟩ : ∃ A' c', (if a0 = 1 then (.slice none 0 0 : Value) else .slice A5 l5.length c5) = .slice A' (lf5 a0 l5).length c' ∧ Kd.C kW wc A' (lf5 a0 l5).length (lf5 a0 l5) := by
    unfold lf5
    by_cases h : a0 = 1
    · rw [if_pos h, if_pos h]; exact ⟨none, 0, rfl, Kd.C_nil _ _⟩
    · rw [if_neg h, if_neg h]; exact ⟨A5, c5, rfl, Kd.C_below H5.out HBc.out⟩
  obtain ⟨A6', c6', e6, g6⟩ : ∃ A' c', (if a0 = 4 then (.slice none 0 0 : Value) else .slice A6 l6.length c6) = .slice A' (lf6 a0 l6).length c' ∧ Kd.C kV wc A' (lf6 a0 l6).length (lf6 a0 l6) := by
    unfold lf6
    by_cases h : a0 = 4
    · rw [if_pos h, if_pos h]; exact ⟨none, 0, rfl, Kd.C_nil _ _⟩
    · rw [if_neg h, if_neg h]; exact ⟨A6, c6, rfl, Kd.C_below H6.out HBc.out⟩
  have HL2 := Aside0.mk (show wc.heap[W.heap.size + 1]? = some (.cells #[.int .i64 0, .int .u64 (lf1 a0 a1), .int .u64 (lf2 a0 a2), .int .i64 (lf3 a0 a3), .int .i64 (lf4 a0 a4), .slice A5' (lf5 a0 l5).length c5', .slice A6' (lf6 a0 l6).length c6'] 28 (0, 0)) by rw [← e5, ← e6]; exact HLc.out)
  have HS := Aside0.mk (recSame 0 (lf1 a0 a1) (lf2 a0 a2) (lf3 a0 a3) (lf4 a0 a4) 0 0 0 0 0 (lf5 a0 l5) [] (lf6 a0 l6) [] A5' c5' A6' c6' none 0 none 0 wc g5 g6 (Kd.C_nil _ _) (Kd.C_nil _ _))
  have hq : (decide ((0 : Int) = 0 ∧ lf1 a0 a1 = 0 ∧ lf2 a0 a2 = 0 ∧ lf3 a0 a3 = 0 ∧ lf4 a0 a4 = 0) && (eqWrs (lf5 a0 l5) [] && decide (lf6 a0 l6 = []))) = (decide (lf1 a0 a1 = 0 ∧ lf2 a0 a2 = 0 ∧ lf3 a0 a3 = 0 ∧ lf4 a0 a4 = 0) && (decide (lf5 a0 l5 = []) && decide (lf6 a0 l6 = []))) := by
    have h1 : eqWrs (lf5 a0 l5) [] = decide (lf5 a0 l5 = []) := by
      rw [Bool.eq_iff_iff, eqWrs_iff, decide_eq_true_iff]
    rw [h1]
    congr 1
    exact decide_eq_decide.mpr ⟨fun h => h.2, fun h => ⟨rfl, h⟩⟩
  rw [hq] at HS
  have z0 : wc.cell? ⟨W.heap.size + 1, 0, none⟩ = some (.int .i64 0) := (blk_cell HL2.out 0).trans rfl
  have z1 : wc.cell? ⟨W.heap.size + 1, 1, none⟩ = some (.int .u64 (lf1 a0 a1)) := (blk_cell HL2.out 1).trans rfl
  have z2 : wc.cell? ⟨W.heap.size + 1, 2, none⟩ = some (.int .u64 (lf2 a0 a2)) := (blk_cell HL2.out 2).trans rfl
  have z3 : wc.cell? ⟨W.heap.size + 1, 3, none⟩ = some (.int .i64 (lf3 a0 a3)) := (blk_cell HL2.out 3).trans rfl
  have z4 : wc.cell? ⟨W.heap.size + 1, 4, none⟩ = some (.int .i64 (lf4 a0 a4)) := (blk_cell HL2.out 4).trans rfl
  have z5 : wc.cell? ⟨W.heap.size + 1, 5, none⟩ = some (.slice A5' (lf5 a0 l5).length c5') := (blk_cell HL2.out 5).trans rfl
  have z6 : wc.cell? ⟨W.heap.size + 1, 6, none⟩ = some (.slice A6' (lf6 a0 l6).length c6') := (blk_cell HL2.out 6).trans rfl
  clear hq e5 e6 g5 g6 HLc HL2 x0 x1 x2 x3 x4 x5 x6
  generalize (decide (lf1 a0 a1 = 0 ∧ lf2 a0 a2 = 0 ∧ lf3 a0 a3 = 0 ∧ lf4 a0 a4 = 0) && (decide (lf5 a0 l5 = []) && decide (lf6 a0 l6 = []))) = s at *
  generalize okR a0 a1 a2 a3 a4 l5 l6 = k at *
  cases k with
  | false =>
    have HZ := Aside0.mk (show rv = 340 by rw [HRV.out, HR.out]; rfl)
    go_wp2_with fail
    go_returns
    exact ⟨by rw [HZ.out]; rfl, HBc.out⟩
  | true =>
    have HZ := Aside0.mk (show r = s by rw [HR.out]; rfl)
    go_wp2_with fail
    refine HS.out.mono ?_
    rintro e w9 ⟨rfl, hd⟩
    have HB9 := Aside0.mk (below_step HBc.out hd)
    clear hd
    cases s with
    | false =>
      have HZ2 := Aside0.mk (show rv = 340 by rw [HRV.out, HZ.out]; rfl)
      go_wp2_with fail
      go_returns
      exact ⟨by rw [HZ2.out]; rfl, HB9.out⟩
    | true =>
      have HZ2 := Aside0.mk (show rv = 0 by rw [HRV.out, HZ.out]; rfl)
      go_wp2_with fail
      go_returns
      exact ⟨by rw [HZ2.out]; rfl, HB9.out⟩
end

end Go.Proofs.Ytngjaaldidmgjaa.G
