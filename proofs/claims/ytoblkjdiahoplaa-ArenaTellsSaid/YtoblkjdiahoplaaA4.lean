/- The iterator arena.used: over the used cells and their slots. Contract of arena.Free. -/
import Derived.RangeFuncNested
import Derived.RangeFuncBound
import Derived.RangeFuncCalls
import Derived.RangeFuncLeaves
import Derived.RangeFuncBox
import Derived.Shelf.Abstract
import Derived.WalkKit
import Derived.OwnWalkIn
import Derived.TacticsInMore
import Derived.LoopNIn
import Derived.LoopIn
import Derived.Test.YtoblkjdiahoplaaA3
namespace Go.Proofs.Ytoblkjdiahoplaa.G
open Go.Shelf Go.RowKit Go.Proofs.YtoblkjdiahoplaaW.PrintWords Go.Proofs.YtoblkjdiahoplaaW.PrintLast Go.Proofs.YtoblkjdiahoplaaW.PrintMore
set_option linter.unusedVariables false
set_option linter.unusedSimpArgs false

section
attribute [local go_sem] Oper.semAt_some

/-- Cell k of a row of cells. -/
def cellAt (l : List Cell) (k : Nat) : Cell := P.rd_T36 l (k : Int)
/-- A cell's value, whose vector lies at A, c. -/
abbrev cellV (x : Cell) (A : Option Addr) (c : Nat) : Value := .agg #[.bool x.f0, .int .u64 x.f1, .int .u64 x.f2.f0, .int .u64 x.f2.f1, .slice A x.f2.f2.length c]
/-- The slots of the used cells among the first n. -/
def usedI (l : List Cell) (n : Nat) : List Nat := (List.range n).filter fun k => (cellAt l k).f0
theorem usedI_succ (l : List Cell) (n : Nat) : usedI l (n + 1) = usedI l n ++ (if (cellAt l n).f0 = true then [n] else []) := by
  unfold usedI
  rw [List.range_succ, List.filter_append]
  cases h : (cellAt l n).f0 <;> simp [h]
theorem usedI_len (l : List Cell) (n : Nat) : (usedI l n).length ≤ n := by
  unfold usedI
  exact Nat.le_trans (List.length_filter_le _ _) (by simp)
/-- The cells of a row, one by one: where their vectors lie. -/
structure CellsAt (W : World) (n₀ : Nat) (A : Option Addr) (l : List Cell) (vA : Nat → Option Addr) (vc : Nat → Nat) : Prop where
  at_ : ∀ k, k < l.length → ∃ ad, A = some ad ∧ ad.block < n₀ ∧ W.cell? (ad.add (k * 5)) = some (.bool (cellAt l k).f0) ∧ W.cell? ⟨(ad.add (k * 5)).block, (ad.add (k * 5)).off + 1, none⟩ = some (.int .u64 (cellAt l k).f1) ∧ W.cell? ⟨(ad.add (k * 5)).block, (ad.add (k * 5)).off + 2, none⟩ = some (.int .u64 (cellAt l k).f2.f0) ∧ W.cell? ⟨(ad.add (k * 5)).block, (ad.add (k * 5)).off + 3, none⟩ = some (.int .u64 (cellAt l k).f2.f1) ∧ W.cell? ⟨(ad.add (k * 5)).block, (ad.add (k * 5)).off + 4, none⟩ = some (.slice (vA k) (cellAt l k).f2.f2.length (vc k))
  vec : ∀ k, (cellAt l k).f2.f2.length ≤ vc k ∧ Kd.C (Kd.int .i32) W (vA k) (cellAt l k).f2.f2.length (cellAt l k).f2.f2
theorem CellsAt.below {W W' : World} {n₀ : Nat} {A : Option Addr} {l : List Cell} {vA : Nat → Option Addr} {vc : Nat → Nat} (h : CellsAt W n₀ A l vA vc) (hb : Below W.heap.size W W') : CellsAt W' n₀ A l vA vc := by
  refine ⟨fun k hk => ?_, fun k => ⟨(h.vec k).1, Kd.C_below (h.vec k).2 hb⟩⟩
  obtain ⟨ad, e, hn, h0, h1, h2, h3, h4⟩ := h.at_ k hk
  have hlt := World.block_lt_of_cell? W _ h0
  exact ⟨ad, e, hn, (hb.cell hlt).trans h0, (hb.cell (p := ⟨(ad.add (k * 5)).block, (ad.add (k * 5)).off + 1, none⟩) hlt).trans h1, (hb.cell (p := ⟨(ad.add (k * 5)).block, (ad.add (k * 5)).off + 2, none⟩) hlt).trans h2, (hb.cell (p := ⟨(ad.add (k * 5)).block, (ad.add (k * 5)).off + 3, none⟩) hlt).trans h3, (hb.cell (p := ⟨(ad.add (k * 5)).block, (ad.add (k * 5)).off + 4, none⟩) hlt).trans h4⟩
theorem cellsAt_of {W : World} {A : Option Addr} {l : List Cell} (h : Kd.C kC W A l.length l) : ∃ vA vc, CellsAt W W.heap.size A l vA vc := by
  have hx : ∀ k : Nat, ∃ p : Option Addr × Nat, (k < l.length → ∃ ad, A = some ad ∧ ad.block < W.heap.size ∧ W.cell? (ad.add (k * 5)) = some (.bool (cellAt l k).f0) ∧ W.cell? ⟨(ad.add (k * 5)).block, (ad.add (k * 5)).off + 1, none⟩ = some (.int .u64 (cellAt l k).f1) ∧ W.cell? ⟨(ad.add (k * 5)).block, (ad.add (k * 5)).off + 2, none⟩ = some (.int .u64 (cellAt l k).f2.f0) ∧ W.cell? ⟨(ad.add (k * 5)).block, (ad.add (k * 5)).off + 3, none⟩ = some (.int .u64 (cellAt l k).f2.f1) ∧ W.cell? ⟨(ad.add (k * 5)).block, (ad.add (k * 5)).off + 4, none⟩ = some (.slice p.1 (cellAt l k).f2.f2.length p.2)) ∧ (cellAt l k).f2.f2.length ≤ p.2 ∧ Kd.C (Kd.int .i32) W p.1 (cellAt l k).f2.f2.length (cellAt l k).f2.f2 := by
    intro k
    by_cases hk : k < l.length
    · obtain ⟨ad, A4, c4, hA, h0, h1, h2, h3, h4, hl4, hC4⟩ := P.at_T36 h (k : Int) (by omega) (by omega)
      rw [Int.toNat_natCast] at h0 h1 h2 h3 h4
      have hlt := World.block_lt_of_cell? W _ h0
      rw [block_add] at hlt
      exact ⟨(A4, c4), fun _ => ⟨ad, hA, hlt, h0, h1, h2, h3, h4⟩, hl4, hC4⟩
    · have e : (cellAt l k).f2.f2 = [] := by
        unfold cellAt P.rd_T36
        rw [Int.toNat_natCast, List.getD_eq_getElem?_getD, List.getElem?_eq_none (by omega)]
        rfl
      rw [e]
      exact ⟨(none, 0), fun h => absurd h hk, Nat.le_refl _, Kd.C_nil _ _⟩
  refine ⟨fun k => (Classical.choose (hx k)).1, fun k => (Classical.choose (hx k)).2, ⟨fun k hk => (Classical.choose_spec (hx k)).1 hk, fun k => (Classical.choose_spec (hx k)).2⟩⟩

set_option maxRecDepth 100000 in
set_option maxHeartbeats 2000000 in
theorem used1 (F : Fence) (n : Nat) (hF : F.fn 54) (hro : F.round = none) (hn : 1 ≤ n) (y B1 n₀ : Nat) (A : Option Addr) (c : Nat) (l : List Cell) (vA : Nat → Option Addr) (vc : Nat → Nat) (J Jx : List Nat → World → Prop)
    (hJ : ∀ pre W W', J pre W → W.grownBy W' none → J pre W')
    (hY : ∀ pre k W, J pre W → pre.length < l.length → YieldAt F (n - 1) Try.prog y #[.int .i64 (k : Nat), cellV (cellAt l k) (vA k) (vc k)] W fun e W' =>
      (e = .returned (.bool true) ∧ J (pre ++ [k]) W' ∧ Below n₀ W W') ∨ (e = .returned (.bool false) ∧ Jx (pre ++ [k]) W'))
    (W : World) (hm : l.length ≤ 9223372036854775807) (hn0 : n₀ ≤ W.heap.size) (h1 : W.cell? ⟨B1, 0, none⟩ = some (.slice A l.length c)) (hA : CellsAt W n₀ A l vA vc) (h0 : J [] W) :
    CallsIn F n Try.prog 54 #[.func (.yield y) #[] #[], .pointer (some ⟨B1, 0, none⟩)] W fun e W' => (∃ v, e = .returned v) ∧
      ((∃ ys, ys = usedI l l.length ∧ J ys W') ∨ (∃ pre, True ∧ Jx pre W')) := by
  have HA := Aside0.mk hA
  have HY := Aside0.mk hY
  have HJA := Aside0.mk hJ
  have HJ := Aside0.mk h0
  clear hA hY h0 hJ
  refine callsIn_of_wp Try.func54 rfl hF ?_ hro
  simp only [Try.ntmps54, List.size_toArray, List.length_cons, List.length_nil, Nat.reduceAdd, Nat.reduceSub, Array.replicate_succ, Array.replicate_zero, List.push_toArray, List.append_toArray, List.nil_append, List.cons_append]
  gi_wp2
  gi_loopw [8] (fun i wr => ∃ k : Nat, k ≤ l.length ∧ i = .int .i64 k ∧ Aside0 (J (usedI l k) wr) ∧ Aside0 (Below n₀ W wr))
    (fun i _ => l.length - (intOf i).toNat)
  case atStart => exact ⟨0, Nat.zero_le _, rfl, ⟨by simpa [usedI] using HJ.out⟩, ⟨Below.refl _ _⟩⟩
  case round =>
    obtain ⟨k, hk, rfl, hJs, hnx⟩ := hrel
    by_cases hlt : k < l.length
    · have hltz : (k : Int) < (l.length : Int) := by omega
      obtain ⟨ad, rfl, hbn, g0, g1, g2, g3, g4⟩ := HA.out.at_ k hlt
      have hbn' : (ad.add (k * 5)).block < n₀ := by rw [block_add]; exact hbn
      have q0 := (hnx.out.cell (p := ad.add (k * 5)) hbn').trans g0
      have q1 := (hnx.out.cell (p := ⟨(ad.add (k * 5)).block, (ad.add (k * 5)).off + 1, none⟩) hbn').trans g1
      have q2 := (hnx.out.cell (p := ⟨(ad.add (k * 5)).block, (ad.add (k * 5)).off + 2, none⟩) hbn').trans g2
      have q3 := (hnx.out.cell (p := ⟨(ad.add (k * 5)).block, (ad.add (k * 5)).off + 3, none⟩) hbn').trans g3
      have q4 := (hnx.out.cell (p := ⟨(ad.add (k * 5)).block, (ad.add (k * 5)).off + 4, none⟩) hbn').trans g4
      have HUS := Aside0.mk (usedI_succ l k)
      have HUL := usedI_len l k
      have HYk := Aside0.mk (fun W' => HY.out (usedI l k) k W')
      clear g0 g1 g2 g3 g4
      generalize cellAt l k = x at *
      have hgr : ∀ o, wr.grownBy (wr.alloc o) none := fun o => ⟨rfl, rfl, rfl, by simp, fun j hj _ => Below.heap_alloc wr o j hj⟩
      have HJ2 := Aside0.mk (fun o => HJA.out _ _ _ hJs.out (hgr o))
      have hsz : n₀ ≤ wr.heap.size := Nat.le_trans hn0 hnx.out.size
      have HB2 := Aside0.mk (fun o => hnx.out.alloc hsz o)
      clear hgr
      cases hx0 : x.f0 with
      | false =>
        rw [hx0] at q0 HUS
        clear HYk
        gi_wp2
        refine ⟨fun _ h => (by cases h), ?_⟩
        gi_wp2
        go_roundw
        case rel => exact ⟨k + 1, by omega, by simp, ⟨by rw [HUS.out]; simpa using HJ2.out _⟩, ⟨HB2.out _⟩⟩
        case measure => simp [intOf]; omega
      | true =>
        rw [hx0] at q0 HUS
        obtain ⟨fn, tmps, assign, body, hy, hR⟩ := HYk.out (wr.alloc (.cells #[.bool true, .int .u64 x.f1, .int .u64 x.f2.f0, .int .u64 x.f2.f1, .slice (vA k) x.f2.f2.length (vc k)] 36)) (HJ2.out _) (by omega)
        have HRR := Aside0.mk hR
        clear hR HYk
        unfold cellV at hy
        rw [hx0] at hy
        gi_wp2
        refine HRR.out.mono ?_
        rintro e W3 (⟨rfl, hJ3, hk3⟩ | ⟨rfl, hJx3⟩)
        · have HJ3 := Aside0.mk hJ3
          have HK3 := Aside0.mk ((HB2.out _).trans hk3)
          clear hJ3 hk3
          gi_wp2
          go_roundw
          case rel => exact ⟨k + 1, by omega, by simp, ⟨by rw [HUS.out]; simpa using HJ3.out⟩, HK3⟩
          case measure => simp [intOf]; omega
        · have HJ3 := Aside0.mk hJx3
          clear hJx3
          gi_wp2
          refine bodyPost_ret (results_none rfl _ _ _) rfl ?_
          exact ⟨⟨_, rfl⟩, .inr ⟨_, trivial, HJ3.out⟩⟩
    · obtain rfl : k = l.length := by omega
      gi_wp2
      go_end0
      exact ⟨⟨_, rfl⟩, .inl ⟨_, rfl, hJs.out⟩⟩
end

section
attribute [local go_sem] Oper.semAt_some

theorem used_stops (F : Fence) (n : Nat) (hF : F.fn 54) (hro : F.round = none) (hn : 1 ≤ n) (B1 n₀ : Nat) (A : Option Addr) (c : Nat) (l : List Cell) (vA : Nat → Option Addr) (vc : Nat → Nat) (w : World) (hm : l.length ≤ 9223372036854775807)
    (hn0 : n₀ ≤ w.heap.size) (g1 : B1 < w.heap.size) (h1 : w.cell? ⟨B1, 0, none⟩ = some (.slice A l.length c)) (hA : CellsAt w n₀ A l vA vc) :
    SeqStopsK F n Try.prog 54 #[.pointer (some ⟨B1, 0, none⟩)] (fun k : Nat => #[Value.int .i64 (k : Int), cellV (cellAt l k) (vA k) (vc k)]) (Below n₀) (fun ys => ys = usedI l l.length) (fun _ => True) l.length w := fun y J Jx W hW hJ _ hY h0 =>
  used1 F n hF hro hn y B1 n₀ A c l vA vc J Jx (fun pre W W' h hg => hJ pre W W' none h hg (fun r e => by cases e)) hY W hm (Nat.le_trans hn0 hW.size) ((hW.cell (p := ⟨B1, 0, none⟩) g1).trans h1) (hA.below hW) h0

set_option maxHeartbeats 1000000 in
theorem used_in (F : Fence) (n : Nat) (hF : F.fn 33) (hro : F.round = none) (A : Option Addr) (k c : Nat) (w : World) :
    CallsIn F n Try.prog 33 #[.agg #[.slice A k c]] w fun e w' => e = .returned (.func (.func 54) #[] #[.pointer (some ⟨w.heap.size, 0, none⟩)]) ∧ w' = w.alloc (.cells #[.slice A k c] 26) := by
  refine callsIn_of_wp Try.func33 rfl hF ?_ hro
  simp only [Try.ntmps33, List.size_toArray, List.length_cons, List.length_nil, Nat.reduceAdd, Nat.reduceSub, Array.replicate_succ, Array.replicate_zero, List.push_toArray, List.append_toArray, List.nil_append, List.cons_append]
  gi_wp2
  go_ret
  exact ⟨rfl, rfl⟩

/-- How many cells are free. -/
def freeN (l : List Cell) : Int := if arenaOk l = true then 96 - ((usedI l l.length).length : Int) else 0
def arena_Free.f (l : List Cell) : Option Int := some (freeN l)

set_option maxRecDepth 100000 in
set_option maxHeartbeats 2000000 in
theorem arena_Free.calls (A0 : Option Addr) (c0 : Nat) (l0 : List Cell) (r : Int) (w : World) (hr0 : Kd.C kC w A0 l0.length l0) (hc0 : l0.length ≤ c0) (h : arena_Free.f l0 = some r) :
    Calls Try.prog 17 #[.agg #[.slice A0 l0.length c0]] w fun e w' => e = .returned (.int .i64 r) ∧ Below w.heap.size w w' := by
  have hr := Option.some.inj h
  clear h
  obtain ⟨w1, hw1⟩ : ∃ w1, w1 = w.alloc (.cells #[.slice A0 l0.length c0] 26) := ⟨_, rfl⟩
  have HB1 := Aside0.mk (show Below w.heap.size w w1 by rw [hw1]; exact (Below.refl _ _).alloc (Nat.le_refl _) _)
  have hblk : w1.heap[w.heap.size]? = some (.cells #[.slice A0 l0.length c0] 26 (0, 0)) := by rw [hw1]; exact heap_alloc_new w _
  have HBK := Aside0.mk hblk
  have q0 : w1.cell? ⟨w.heap.size, 0, none⟩ = some (.slice A0 l0.length c0) := (blk_cell hblk 0).trans rfl
  have HCK := Aside0.mk (arena_Check.calls A0 c0 l0 (if arenaOk l0 = true then 0 else 190) w1 (Kd.C_below hr0 HB1.out) hc0 rfl)
  have HW := Aside0.mk hw1
  have hm := Kd.C_max hr0
  have HR := Aside0.mk hr0
  unfold freeN at hr
  cases hok : arenaOk l0 with
  | false =>
    rw [hok] at HCK hr
    rw [if_neg (by decide)] at HCK hr
    subst hr
    clear hblk hw1 hr0 hc0 hok
    go_enter Try.func17, Try.ntmps17
    go_upto_region 1 with (fail)
    rw [← HW.out]
    go_wp2_with fail
    refine HCK.out.mono ?_
    rintro e w2 ⟨rfl, hd⟩
    have HB := Aside0.mk (below_step HB1.out hd)
    clear hd
    go_wp2_with fail
    go_returns
    exact ⟨rfl, HB.out⟩
  | true =>
    rw [hok] at HCK hr
    rw [if_pos rfl] at HCK hr
    have hl96 : l0.length = 96 := by
      unfold arenaOk at hok
      rw [Bool.and_eq_true] at hok
      exact of_decide_eq_true hok.1
    have HL := Aside0.mk hl96
    obtain ⟨vA, vc, hcs⟩ := cellsAt_of hr0
    have HCS := Aside0.mk hcs
    have HRR := Aside0.mk hr
    clear hblk hr0 hc0 hok hr hl96 hcs HW
    subst hw1
    refine (callsIn_wide (n := 3)).1 ?_
    refine callsIn_of_wp_marks Try.func17 rfl trivial ?_ rfl
    simp only [Try.ntmps17, List.size_toArray, List.length_cons, List.length_nil, Nat.reduceAdd, Nat.reduceSub, Array.replicate_succ, Array.replicate_zero, List.push_toArray, List.append_toArray, List.nil_append, List.cons_append]
    gi_wp2_with (first
      | (refine ⟨trivial, ?_⟩; gi_at_call 33; refine (used_in Fence.wide 2 trivial rfl _ _ _ _).mono ?_; rintro e w3 ⟨rfl, rfl⟩)
      | (refine ⟨trivial, ?_⟩; gi_at_call 19; refine (callsIn_wide.2 HCK.out).mono ?_; rintro e w2 ⟨rfl, hd⟩; have HB2 := Aside0.mk (below_step HB1.out hd); have q2 : w2.cell? ⟨w.heap.size, 0, none⟩ = some (.slice A0 l0.length c0) := (blk_cell (blk_below HBK.out hd) 0).trans rfl; have hz : w.heap.size < w2.heap.size := (by have := hd.size; simp at this; omega); clear hd))
    have bS := Boxed.new w2 3 (.int .i64 96)
    have b1 := Boxed.new (w2.alloc (.cells #[.int .i64 96] 3)) 26 (.slice A0 l0.length c0)
    simp only [World.size_alloc] at b1
    have hB0 : Below w.heap.size w ((w2.alloc (.cells #[.int .i64 96] 3)).alloc (.cells #[.slice A0 l0.length c0] 26)) := (HB2.out.alloc (by omega) _).alloc (by simp; omega) _
    have HB0 := Aside0.mk hB0
    refine wpIn_rangeFunc_ownG rfl (show 1 ≤ 3 by decide) (gf := 54) (lb := #[.pointer (some ⟨w2.heap.size + 1, 0, none⟩)]) rfl trivial (enters_of Try.func54 (by kernel_rfl) rfl)
      (used_stops Fence.wide 2 trivial rfl (by decide) (w2.heap.size + 1) w.heap.size A0 c0 l0 vA vc _ hm (by simp; omega) (by simp) b1.cell (HCS.out.below hB0)) (fun h k => h.trans k) (belowK_b (by simp; omega)) (Below.refl _ _) (fun _ => rfl)
      (fun pre W => (W.cell? ⟨w2.heap.size, 0, none⟩ = some (.int .i64 (96 - (pre.length : Int))) ∧ W.frozen? ⟨w2.heap.size, 0, none⟩ = false) ∧ Below w.heap.size w W)
      (fun _ _ _ => False)
      (OwnFrom.and (Own.from (fun s A B row hs hg hr => ⟨cell_kept hs.1 hg hr, (frozen_kept hs.1 hg hr).trans hs.2⟩) _) (ownFrom_below (by omega) (by simp; omega)))
      (fun _ _ _ _ _ hs _ _ => hs)
      ⟨⟨(bS.alloc _).cell, (bS.alloc _).frozen⟩, hB0⟩
      (fun k => { tmps := #[.agg #[.slice A0 l0.length c0], .pointer (some ⟨w.heap.size, 0, none⟩), .int .i64 0, .pointer (some ⟨w2.heap.size, 0, none⟩), .agg #[.slice A0 l0.length c0], .int .i64 0, .bool false, .agg #[.slice A0 l0.length c0], .func (.func 54) #[] #[.pointer (some ⟨w2.heap.size + 1, 0, none⟩)], .int .i64 (k : Int), cellV (cellAt l0 k) (vA k) (vc k), undef, undef, undef], defers := [] }) ?assign ?body ?done ?stop
    case assign =>
      intro y x W K hK
      gi_wp2
      simpa using hK
    case body =>
      rintro y pre k W ⟨⟨hc, hf⟩, hB⟩ hlt
      have hp : pre.length < 96 := by have := HL.out; omega
      gi_wp2
      refine ⟨(KeepsOthers.setCell _ _ _).from _, (Below.refl w.heap.size W).setCell (p := ⟨w2.heap.size, 0, none⟩) (show w.heap.size ≤ w2.heap.size by omega) _, ⟨?_, by rw [World.frozen?_setCell]; exact hf⟩, hB.setCell (p := ⟨w2.heap.size, 0, none⟩) (show w.heap.size ≤ w2.heap.size by omega) _⟩
      rw [World.cell?_setCell_same' _ _ _ (by rw [hc]; rfl), List.length_append, List.length_singleton, show 96 - (pre.length : Int) - 1 = 96 - ((pre.length + 1 : Nat) : Int) by omega]
    case done =>
      rintro D ys W hD rfl ⟨⟨hc, _⟩, hB⟩ hK
      gi_wp2
      refine ⟨by simp, .inl ⟨_, _, rfl, run_takeDeferred hK, ?_⟩⟩
      exact ⟨_, results_tmp rfl _ _ _, by rw [← HRR.out]; rfl, hB.trans (belowK_b (w := w) (Nat.le_refl _) W D _ _ (by simp at hD; omega) hK rfl rfl)⟩
    case stop =>
      rintro D c pre W _ _ h _
      exact h.elim
end

end Go.Proofs.Ytoblkjdiahoplaa.G
