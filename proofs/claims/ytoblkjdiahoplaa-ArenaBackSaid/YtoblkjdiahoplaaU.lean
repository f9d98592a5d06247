/- The iterator arena.used: over the used cells and their slots. -/
import Derived.RangeFuncNested
import Derived.RangeFuncBound
import Derived.RangeFuncCalls
import Derived.RangeFuncLeaves
import Derived.RangeFuncBox
import Derived.Shelf.Abstract
import Derived.WalkKit
import Derived.OwnWalkIn
import Derived.TacticsInMore
import Derived.LoopNIn
import Derived.LoopIn
import Derived.Test.YtoblkjdiahoplaaA3
namespace Go.Proofs.Ytoblkjdiahoplaa.G
open Go.Shelf Go.RowKit Go.Proofs.YtoblkjdiahoplaaW.PrintWords Go.Proofs.YtoblkjdiahoplaaW.PrintLast Go.Proofs.YtoblkjdiahoplaaW.PrintMore
set_option linter.unusedVariables false
set_option linter.unusedSimpArgs false
attribute [local go_sem] Oper.semAt_some

/-- Cell k of a row of cells. -/
def cellAt (l : List Cell) (k : Nat) : Cell := P.rd_T36 l (k : Int)
/-- A cell's value, whose vector lies at A, c. -/
abbrev cellV (x : Cell) (A : Option Addr) (c : Nat) : Value := .agg #[.bool x.f0, .int .u64 x.f1, .int .u64 x.f2.f0, .int .u64 x.f2.f1, .slice A x.f2.f2.length c]
/-- The slots of the used cells among the first n. -/
def usedI (l : List Cell) (n : Nat) : List Nat := (List.range n).filter fun k => (cellAt l k).f0
theorem usedI_succ (l : List Cell) (n : Nat) : usedI l (n + 1) = usedI l n ++ (if (cellAt l n).f0 = true then [n] else []) := by
  unfold usedI
  rw [List.range_succ, List.filter_append]
  cases h : (cellAt l n).f0 <;> simp [h]
theorem usedI_len (l : List Cell) (n : Nat) : (usedI l n).length ≤ n := by
  unfold usedI
  exact Nat.le_trans (List.length_filter_le _ _) (by simp)
/-- The cells of a row, one by one: where their vectors lie. -/
structure CellsAt (W : World) (n₀ : Nat) (A : Option Addr) (l : List Cell) (vA : Nat → Option Addr) (vc : Nat → Nat) : Prop where
  at_ : ∀ k, k < l.length → ∃ ad, A = some ad ∧ ad.block < n₀ ∧ W.cell? (ad.add (k * 5)) = some (.bool (cellAt l k).f0) ∧ W.cell? ⟨(ad.add (k * 5)).block, (ad.add (k * 5)).off + 1, none⟩ = some (.int .u64 (cellAt l k).f1) ∧ W.cell? ⟨(ad.add (k * 5)).block, (ad.add (k * 5)).off + 2, none⟩ = some (.int .u64 (cellAt l k).f2.f0) ∧ W.cell? ⟨(ad.add (k * 5)).block, (ad.add (k * 5)).off + 3, none⟩ = some (.int .u64 (cellAt l k).f2.f1) ∧ W.cell? ⟨(ad.add (k * 5)).block, (ad.add (k * 5)).off + 4, none⟩ = some (.slice (vA k) (cellAt l k).f2.f2.length (vc k))
  vec : ∀ k, (cellAt l k).f2.f2.length ≤ vc k ∧ Kd.C (Kd.int .i32) W (vA k) (cellAt l k).f2.f2.length (cellAt l k).f2.f2
theorem CellsAt.below {W W' : World} {n₀ : Nat} {A : Option Addr} {l : List Cell} {vA : Nat → Option Addr} {vc : Nat → Nat} (h : CellsAt W n₀ A l vA vc) (hb : Below W.heap.size W W') : CellsAt W' n₀ A l vA vc := by
  refine ⟨fun k hk => ?_, fun k => ⟨(h.vec k).1, Kd.C_below (h.vec k).2 hb⟩⟩
  obtain ⟨ad, e, hn, h0, h1, h2, h3, h4⟩ := h.at_ k hk
  have hlt := World.block_lt_of_cell? W _ h0
  exact ⟨ad, e, hn, (hb.cell hlt).trans h0, (hb.cell (p := ⟨(ad.add (k * 5)).block, (ad.add (k * 5)).off + 1, none⟩) hlt).trans h1, (hb.cell (p := ⟨(ad.add (k * 5)).block, (ad.add (k * 5)).off + 2, none⟩) hlt).trans h2, (hb.cell (p := ⟨(ad.add (k * 5)).block, (ad.add (k * 5)).off + 3, none⟩) hlt).trans h3, (hb.cell (p := ⟨(ad.add (k * 5)).block, (ad.add (k * 5)).off + 4, none⟩) hlt).trans h4⟩
theorem cellsAt_of {W : World} {A : Option Addr} {l : List Cell} (h : Kd.C kC W A l.length l) : ∃ vA vc, CellsAt W W.heap.size A l vA vc := by
  have hx : ∀ k : Nat, ∃ p : Option Addr × Nat, (k < l.length → ∃ ad, A = some ad ∧ ad.block < W.heap.size ∧ W.cell? (ad.add (k * 5)) = some (.bool (cellAt l k).f0) ∧ W.cell? ⟨(ad.add (k * 5)).block, (ad.add (k * 5)).off + 1, none⟩ = some (.int .u64 (cellAt l k).f1) ∧ W.cell? ⟨(ad.add (k * 5)).block, (ad.add (k * 5)).off + 2, none⟩ = some (.int .u64 (cellAt l k).f2.f0) ∧ W.cell? ⟨(ad.add (k * 5)).block, (ad.add (k * 5)).off + 3, none⟩ = some (.int .u64 (cellAt l k).f2.f1) ∧ W.cell? ⟨(ad.add (k * 5)).block, (ad.add (k * 5)).off + 4, none⟩ = some (.slice p.1 (cellAt l k).f2.f2.length p.2)) ∧ (cellAt l k).f2.f2.length ≤ p.2 ∧ Kd.C (Kd.int .i32) W p.1 (cellAt l k).f2.f2.length (cellAt l k).f2.f2 := by
    intro k
    by_cases hk : k < l.length
    · obtain ⟨ad, A4, c4, hA, h0, h1, h2, h3, h4, hl4, hC4⟩ := P.at_T36 h (k : Int) (by omega) (by omega)
      rw [Int.toNat_natCast] at h0 h1 h2 h3 h4
      have hlt := World.block_lt_of_cell? W _ h0
      rw [block_add] at hlt
      exact ⟨(A4, c4), fun _ => ⟨ad, hA, hlt, h0, h1, h2, h3, h4⟩, hl4, hC4⟩
    · have e : (cellAt l k).f2.f2 = [] := by
        unfold cellAt P.rd_T36
        rw [Int.toNat_natCast, List.getD_eq_getElem?_getD, List.getElem?_eq_none (by omega)]
        rfl
      rw [e]
      exact ⟨(none, 0), fun h => absurd h hk, Nat.le_refl _, Kd.C_nil _ _⟩
  refine ⟨fun k => (Classical.choose (hx k)).1, fun k => (Classical.choose (hx k)).2, ⟨fun k hk => (Classical.choose_spec (hx k)).1 hk, fun k => (Classical.choose_spec (hx k)).2⟩⟩

set_option maxRecDepth 100000 in
set_option maxHeartbeats 2000000 in
theorem used1 (F : Fence) (n : Nat) (hF : F.fn 54) (hro : F.round = none) (hn : 1 ≤ n) (y B1 n₀ : Nat) (A : Option Addr) (c : Nat) (l : List Cell) (vA : Nat → Option Addr) (vc : Nat → Nat) (J Jx : List Nat → World → Prop)
    (hJ : ∀ pre W W', J pre W → W.grownBy W' none → J pre W')
    (hY : ∀ pre k W, J pre W → pre.length < l.length → YieldAt F (n - 1) Try.prog y #[.int .i64 (k : Nat), cellV (cellAt l k) (vA k) (vc k)] W fun e W' =>
      (e = .returned (.bool true) ∧ J (pre ++ [k]) W' ∧ Below n₀ W W') ∨ (e = .returned (.bool false) ∧ Jx (pre ++ [k]) W'))
    (W : World) (hm : l.length ≤ 9223372036854775807) (hn0 : n₀ ≤ W.heap.size) (h1 : W.cell? ⟨B1, 0, none⟩ = some (.slice A l.length c)) (hA : CellsAt W n₀ A l vA vc) (h0 : J [] W) :
    CallsIn F n Try.prog 54 #[.func (.yield y) #[] #[], .pointer (some ⟨B1, 0, none⟩)] W fun e W' => (∃ v, e = .returned v) ∧
      ((∃ ys, ys = usedI l l.length ∧ J ys W') ∨ (∃ pre, True ∧ Jx pre W')) := by
  have HA := Aside0.mk hA
  have HY := Aside0.mk hY
  have HJA := Aside0.mk hJ
  have HJ := Aside0.mk h0
  clear hA hY h0 hJ
  refine callsIn_of_wp Try.func54 rfl hF ?_ hro
  simp only [Try.ntmps54, List.size_toArray, List.length_cons, List.length_nil, Nat.reduceAdd, Nat.reduceSub, Array.replicate_succ, Array.replicate_zero, List.push_toArray, List.append_toArray, List.nil_append, List.cons_append]
  gi_wp2
  gi_loopw [8] (fun i wr => ∃ k : Nat, k ≤ l.length ∧ i = .int .i64 k ∧ Aside0 (J (usedI l k) wr) ∧ Aside0 (Below n₀ W wr))
    (fun i _ => l.length - (intOf i).toNat)
  case atStart => exact ⟨0, Nat.zero_le _, rfl, ⟨by simpa [usedI] using HJ.out⟩, ⟨Below.refl _ _⟩⟩
  case round =>
    obtain ⟨k, hk, rfl, hJs, hnx⟩ := hrel
    by_cases hlt : k < l.length
    · have hltz : (k : Int) < (l.length : Int) := by omega
      obtain ⟨ad, rfl, hbn, g0, g1, g2, g3, g4⟩ := HA.out.at_ k hlt
      have hbn' : (ad.add (k * 5)).block < n₀ := by rw [block_add]; exact hbn
      have q0 := (hnx.out.cell (p := ad.add (k * 5)) hbn').trans g0
      have q1 := (hnx.out.cell (p := ⟨(ad.add (k * 5)).block, (ad.add (k * 5)).off + 1, none⟩) hbn').trans g1
      have q2 := (hnx.out.cell (p := ⟨(ad.add (k * 5)).block, (ad.add (k * 5)).off + 2, none⟩) hbn').trans g2
      have q3 := (hnx.out.cell (p := ⟨(ad.add (k * 5)).block, (ad.add (k * 5)).off + 3, none⟩) hbn').trans g3
      have q4 := (hnx.out.cell (p := ⟨(ad.add (k * 5)).block, (ad.add (k * 5)).off + 4, none⟩) hbn').trans g4
      have HUS := Aside0.mk (usedI_succ l k)
      have HUL := usedI_len l k
      have HYk := Aside0.mk (fun W' => HY.out (usedI l k) k W')
      clear g0 g1 g2 g3 g4
      generalize cellAt l k = x at *
      have hgr : ∀ o, wr.grownBy (wr.alloc o) none := fun o => ⟨rfl, rfl, rfl, by simp, fun j hj _ => Below.heap_alloc wr o j hj⟩
      have HJ2 := Aside0.mk (fun o => HJA.out _ _ _ hJs.out (hgr o))
      have hsz : n₀ ≤ wr.heap.size := Nat.le_trans hn0 hnx.out.size
      have HB2 := Aside0.mk (fun o => hnx.out.alloc hsz o)
      clear hgr
      cases hx0 : x.f0 with
      | false =>
        rw [hx0] at q0 HUS
        clear HYk
        gi_wp2
        refine ⟨fun _ h => (by cases h), ?_⟩
        gi_wp2
        go_roundw
        case rel => exact ⟨k + 1, by omega, by simp, ⟨by rw [HUS.out]; simpa using HJ2.out _⟩, ⟨HB2.out _⟩⟩
        case measure => simp [intOf]; omega
      | true =>
        rw [hx0] at q0 HUS
        obtain ⟨fn, tmps, assign, body, hy, hR⟩ := HYk.out (wr.alloc (.cells #[.bool true, .int .u64 x.f1, .int .u64 x.f2.f0, .int .u64 x.f2.f1, .slice (vA k) x.f2.f2.length (vc k)] 36)) (HJ2.out _) (by omega)
        have HRR := Aside0.mk hR
        clear hR HYk
        unfold cellV at hy
        rw [hx0] at hy
        gi_wp2
        refine HRR.out.mono ?_
        rintro e W3 (⟨rfl, hJ3, hk3⟩ | ⟨rfl, hJx3⟩)
        · have HJ3 := Aside0.mk hJ3
          have HK3 := Aside0.mk ((HB2.out _).trans hk3)
          clear hJ3 hk3
          gi_wp2
          go_roundw
          case rel => exact ⟨k + 1, by omega, by simp, ⟨by rw [HUS.out]; simpa using HJ3.out⟩, HK3⟩
          case measure => simp [intOf]; omega
        · have HJ3 := Aside0.mk hJx3
          clear hJx3
          gi_wp2
          refine bodyPost_ret (results_none rfl _ _ _) rfl ?_
          exact ⟨⟨_, rfl⟩, .inr ⟨_, trivial, HJ3.out⟩⟩
    · obtain rfl : k = l.length := by omega
      gi_wp2
      go_end0
      exact ⟨⟨_, rfl⟩, .inl ⟨_, rfl, hJs.out⟩⟩

end Go.Proofs.Ytoblkjdiahoplaa.G
