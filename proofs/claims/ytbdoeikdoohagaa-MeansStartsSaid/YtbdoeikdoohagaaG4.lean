/- Contract of vec.dist: the distance of two vectors, by an iterator over both. -/
import Derived.RangeFuncNested
import Derived.RangeFuncBound
import Derived.RangeFuncCalls
import Derived.RangeFuncLeaves
import Derived.RangeFuncBox
import Derived.Shelf.Abstract
import Derived.WalkKit
import Derived.OwnWalkIn
import Derived.TacticsInMore
import Derived.LoopNIn
import Derived.LoopIn
import Derived.Test.YtbdoeikdoohagaaG3
namespace Go.Proofs.Ytbdoeikdoohagaa.G
open Go.Shelf Go.RowKit Go.Proofs.YtbdoeikdoohagaaW.PrintWords Go.Proofs.YtbdoeikdoohagaaW.PrintLast Go.Proofs.YtbdoeikdoohagaaW.PrintMore
set_option linter.unusedVariables false
set_option linter.unusedSimpArgs false
attribute [local go_sem] Oper.semAt_some max2_int

def dgap (p : Int × Int) : Int := IntKind.u64.wrap (if wrap64 (p.1 - p.2) < wrap64 (p.2 - p.1) then wrap64 (p.2 - p.1) else wrap64 (p.1 - p.2))
def dstep (s : Int) (p : Int × Int) : Int := IntKind.u64.wrap (s + IntKind.u64.wrap (dgap p * dgap p))
def distP (l : List (Int × Int)) : Int := l.foldl dstep 0
theorem distP_snoc (l : List (Int × Int)) (p : Int × Int) : distP (l ++ [p]) = dstep (distP l) p := by simp [distP]
def distV (l m : List Int) : Int := distP (l.zip m)
def vec_dist.f (l m : List Int) : Option Int := if l.length = m.length ∧ l.all okC = true ∧ m.all okC = true then some (distV l m) else none

theorem zip_take (l m : List Int) (h : l.length = m.length) (k : Nat) (hk : k < l.length) : (l.zip m).take (k + 1) = (l.zip m).take k ++ [(l.getD k 0, m.getD k 0)] := by
  have hk2 : k < (l.zip m).length := by rw [List.length_zip]; omega
  have hk3 : k < m.length := by omega
  rw [List.take_succ_eq_append_getElem hk2, List.getElem_zip]
  simp [List.getD, hk, hk3]
theorem okC_at (l : List Int) (h : l.all okC = true) (k : Nat) (hk : k < l.length) : -1073741823 ≤ l.getD k 0 ∧ l.getD k 0 ≤ 1073741823 := by
  have := List.all_eq_true.1 h _ (List.getElem_mem hk)
  simpa [okC, List.getD, hk] using this

/-- What a round keeps: what lay below, and the cell of the box b. -/
def KpB (n₀ b : Nat) (W W' : World) : Prop := Below n₀ W W' ∧ ∀ v, W.cell? ⟨b, 0, none⟩ = some v → W'.cell? ⟨b, 0, none⟩ = some v
theorem KpB.trans {n₀ b : Nat} {A B C : World} (h : KpB n₀ b A B) (k : KpB n₀ b B C) : KpB n₀ b A C := ⟨h.1.trans k.1, fun v hv => k.2 v (h.2 v hv)⟩
theorem KpB.refl (n₀ b : Nat) (A : World) : KpB n₀ b A A := ⟨Below.refl _ _, fun _ h => h⟩
theorem KpB.set {n₀ b : Nat} (W : World) (p : Addr) (u : Value) (h : n₀ ≤ p.block) (hb : p.block ≠ b) : KpB n₀ b W (W.setCell p u) :=
  ⟨(Below.refl n₀ W).setCell h _, fun v hv => by rw [World.cell?_setCell_other _ _ _ _ (fun e => hb (by rw [e]))]; exact hv⟩
theorem KpB.put {n₀ b : Nat} {w : World} (hw : n₀ ≤ w.heap.size) (W : World) (l : Nat) (o o' : Obj) (h1 : w.heap.size ≤ l) (h2 : W.heap[l]? = some o) (h3 : o.isCells = false) (h4 : o.isWalk = false) : KpB n₀ b W (W.putObj l o') :=
  ⟨belowK_b hw W l o o' h1 h2 h3 h4, fun v hv => cell_kept hv (grownBy_putObj' _ l o') (fun r e => by cases e; exact ⟨_, h2, h3⟩)⟩

set_option maxRecDepth 100000 in
set_option maxHeartbeats 2000000 in
theorem both1 (F : Fence) (n : Nat) (hF : F.fn 81) (hro : F.round = none) (hn : 1 ≤ n) (y B1 B2 n₀ : Nat) (A : Option Addr) (c : Nat) (A' : Option Addr) (c' : Nat) (l m : List Int) (hlm : l.length = m.length) (ol : l.all okC = true) (om : m.all okC = true) (J Jx : List (Int × Int) → World → Prop)
    (hY : ∀ pre x W, J pre W → pre.length < l.length → YieldAt F (n - 1) Try.prog y #[.int .i64 x.1, .int .i64 x.2] W fun e W' =>
      (e = .returned (.bool true) ∧ J (pre ++ [x]) W' ∧ KpB n₀ B2 W W') ∨ (e = .returned (.bool false) ∧ Jx (pre ++ [x]) W'))
    (W : World) (h1 : W.cell? ⟨B1, 0, none⟩ = some (.slice A l.length c)) (h2 : W.cell? ⟨B2, 0, none⟩ = some (.slice A' m.length c'))
    (hr : Kd.C (Kd.int .i32) W A l.length l) (hr' : Kd.C (Kd.int .i32) W A' m.length m) (hA : ∀ ad, A = some ad → 0 < l.length → ad.block < n₀) (hA' : ∀ ad, A' = some ad → 0 < m.length → ad.block < n₀) (h0 : J [] W) :
    CallsIn F n Try.prog 81 #[.func (.yield y) #[] #[], .pointer (some ⟨B1, 0, none⟩), .pointer (some ⟨B2, 0, none⟩)] W fun e W' => (∃ v, e = .returned v) ∧
      ((∃ ys, ys = l.zip m ∧ J ys W') ∨ (∃ pre, True ∧ Jx pre W')) := by
  have hm := Kd.C_max hr
  have HR := Aside0.mk hr
  have HR' := Aside0.mk hr'
  have HA := Aside0.mk hA
  have HA' := Aside0.mk hA'
  have HY := Aside0.mk hY
  have HJ := Aside0.mk h0
  have H2 := Aside0.mk h2
  clear hr hr' hA hA' hY h0 h2
  refine callsIn_of_wp Try.func81 rfl hF ?_ hro
  simp only [Try.ntmps81, List.size_toArray, List.length_cons, List.length_nil, Nat.reduceAdd, Nat.reduceSub, Array.replicate_succ, Array.replicate_zero, List.push_toArray, List.append_toArray, List.nil_append, List.cons_append]
  gi_wp2
  gi_loopw [8] (fun i wr => ∃ k : Nat, k ≤ l.length ∧ i = .int .i64 k ∧ Aside0 (J ((l.zip m).take k) wr) ∧ Aside0 (KpB n₀ B2 W wr))
    (fun i _ => l.length - (intOf i).toNat)
  case atStart => exact ⟨0, Nat.zero_le _, rfl, ⟨by simpa using HJ.out⟩, ⟨KpB.refl _ _ _⟩⟩
  case round =>
    obtain ⟨k, hk, rfl, hJs, hnx⟩ := hrel
    by_cases hlt : k < l.length
    · obtain ⟨ad, rfl, hx⟩ := C_byte' HR.out k hlt
      obtain ⟨ad', rfl, hx'⟩ := C_byte' HR'.out k (by omega)
      have hc2 : wr.cell? ⟨B2, 0, none⟩ = some (.slice (some ad') m.length c') := hnx.out.2 _ H2.out
      have q1 : wr.cell? (ad.add k) = some (.int .i32 (l.getD k 0)) := (hnx.out.1.cell (p := ad.add k) (by rw [block_add]; exact HA.out ad rfl (by omega))).trans hx
      have q2 : wr.cell? (ad'.add k) = some (.int .i32 (m.getD k 0)) := (hnx.out.1.cell (p := ad'.add k) (by rw [block_add]; exact HA'.out ad' rfl (by omega))).trans hx'
      have i1 := okC_at l ol k hlt
      have i2 := okC_at m om k (by omega)
      have hz := zip_take l m hlm k hlt
      obtain ⟨fn, tmps, assign, body, hy, hR⟩ := HY.out _ (l.getD k 0, m.getD k 0) wr hJs.out (by rw [List.length_take, List.length_zip]; omega)
      have HZ := Aside0.mk hz
      have HRR := Aside0.mk hR
      clear hx hx' hz hR
      dsimp only at hy
      generalize l.getD k 0 = x at *
      generalize m.getD k 0 = z at *
      have k1 : (k : Int) < (m.length : Int) := by omega
      obtain ⟨i1a, i1b⟩ := i1
      obtain ⟨i2a, i2b⟩ := i2
      gi_wp2
      refine HRR.out.mono ?_
      rintro e W3 (⟨rfl, hJ3, hk3⟩ | ⟨rfl, hJx3⟩)
      · have HJ3 := Aside0.mk hJ3
        have HK3 := Aside0.mk (hnx.out.trans hk3)
        clear hJ3 hk3
        gi_wp2
        go_roundw
        case rel => exact ⟨k + 1, by omega, by simp, ⟨by rw [HZ.out]; exact HJ3.out⟩, HK3⟩
        case measure => simp [intOf]; omega
      · have HJ3 := Aside0.mk hJx3
        clear hJx3
        gi_wp2
        refine bodyPost_ret (results_none rfl _ _ _) rfl ?_
        exact ⟨⟨_, rfl⟩, .inr ⟨_, trivial, HJ3.out⟩⟩
    · obtain rfl : k = l.length := by omega
      gi_wp2
      go_end0
      exact ⟨⟨_, rfl⟩, .inl ⟨_, rfl, by have := hJs.out; rwa [List.take_of_length_le (by rw [List.length_zip]; omega)] at this⟩⟩

theorem both_stops (F : Fence) (n : Nat) (hF : F.fn 81) (hro : F.round = none) (hn : 1 ≤ n) (B1 B2 n₀ : Nat) (A : Option Addr) (c : Nat) (A' : Option Addr) (c' : Nat) (l m : List Int) (hlm : l.length = m.length) (ol : l.all okC = true) (om : m.all okC = true) (w : World)
    (g1 : B1 < w.heap.size) (g2 : B2 < w.heap.size) (h1 : w.cell? ⟨B1, 0, none⟩ = some (.slice A l.length c)) (h2 : w.cell? ⟨B2, 0, none⟩ = some (.slice A' m.length c'))
    (hr : Kd.C (Kd.int .i32) w A l.length l) (hr' : Kd.C (Kd.int .i32) w A' m.length m) (hA : ∀ ad, A = some ad → 0 < l.length → ad.block < n₀) (hA' : ∀ ad, A' = some ad → 0 < m.length → ad.block < n₀) :
    SeqStopsK F n Try.prog 81 #[.pointer (some ⟨B1, 0, none⟩), .pointer (some ⟨B2, 0, none⟩)] (fun x : Int × Int => #[Value.int .i64 x.1, Value.int .i64 x.2]) (KpB n₀ B2) (fun ys => ys = l.zip m) (fun _ => True) l.length w := fun y J Jx W hW _ _ hY h0 =>
  both1 F n hF hro hn y B1 B2 n₀ A c A' c' l m hlm ol om J Jx hY W ((hW.cell (p := ⟨B1, 0, none⟩) g1).trans h1) ((hW.cell (p := ⟨B2, 0, none⟩) g2).trans h2) (Kd.C_below hr hW) (Kd.C_below hr' hW) hA hA' h0

set_option maxHeartbeats 1000000 in
theorem both_in (F : Fence) (n : Nat) (hF : F.fn 72) (hro : F.round = none) (A : Option Addr) (k c : Nat) (A' : Option Addr) (k' c' : Nat) (w : World) :
    CallsIn F n Try.prog 72 #[.slice A k c, .slice A' k' c'] w fun e w' => e = .returned (.func (.func 81) #[] #[.pointer (some ⟨w.heap.size, 0, none⟩), .pointer (some ⟨w.heap.size + 1, 0, none⟩)]) ∧ w' = (w.alloc (.cells #[.slice A k c] 25)).alloc (.cells #[.slice A' k' c'] 25) := by
  refine callsIn_of_wp Try.func72 rfl hF ?_ hro
  simp only [Try.ntmps72, List.size_toArray, List.length_cons, List.length_nil, Nat.reduceAdd, Nat.reduceSub, Array.replicate_succ, Array.replicate_zero, List.push_toArray, List.append_toArray, List.nil_append, List.cons_append]
  gi_wp2
  go_ret
  exact ⟨rfl, rfl⟩

theorem C_blk {α : Type} {d : Kd α} {w : World} {A : Option Addr} {l : List α} (h : d.C w A l.length l) (hs : 0 < d.sz) (z : α) : ∀ ad, A = some ad → 0 < l.length → ad.block < w.heap.size := by
  intro ad hA h0
  obtain ⟨ad', cc, hA', _, hK, hcell⟩ := Kd.C_get h z 0 (by omega) (by omega)
  rw [hA] at hA'
  injection hA' with e
  subst e
  have hl := d.K_len hK
  have h1 := hcell 0 (cc[0]'(by omega)) (List.getElem?_eq_getElem (by omega))
  have := World.block_lt_of_cell? w _ h1
  rwa [block_add] at this

set_option maxRecDepth 100000 in
set_option maxHeartbeats 2000000 in
theorem dist_in (F : Fence) (n : Nat) (f1 : F.fn 58) (f2 : F.fn 72) (f3 : F.fn 81) (hro : F.round = none) (hn : 3 ≤ n) (A : Option Addr) (c : Nat) (A' : Option Addr) (c' : Nat) (l m : List Int) (hlm : l.length = m.length) (ol : l.all okC = true) (om : m.all okC = true) (w : World)
    (hr : Kd.C (Kd.int .i32) w A l.length l) (hr' : Kd.C (Kd.int .i32) w A' m.length m) :
    CallsIn F n Try.prog 58 #[.slice A l.length c, .slice A' m.length c'] w fun e W' => e = .returned (.int .u64 (distP (l.zip m))) ∧ Below w.heap.size w W' := by
  have h1 : 1 ≤ n := by omega
  have HA := Aside0.mk (C_blk hr (by decide) 0)
  have HA' := Aside0.mk (C_blk hr' (by decide) 0)
  have HR := Aside0.mk hr
  have HR' := Aside0.mk hr'
  have HL := Aside0.mk hlm
  clear hr hr' hlm
  refine callsIn_of_wp_marks Try.func58 rfl f1 ?_ hro
  simp only [Try.ntmps58, List.size_toArray, List.length_cons, List.length_nil, Nat.reduceAdd, Nat.reduceSub, Array.replicate_succ, Array.replicate_zero, List.push_toArray, List.append_toArray, List.nil_append, List.cons_append]
  gi_wp2_with (gi_at_call 72; refine (both_in F (n - 1) f2 hro _ _ _ _ _ _ _).mono ?_; rintro e w' ⟨rfl, rfl⟩)
  have bS := Boxed.new w 31 (.int .u64 0)
  have b1 := Boxed.new (w.alloc (.cells #[.int .u64 0] 31)) 25 (.slice A l.length c)
  have b2 := Boxed.new ((w.alloc (.cells #[.int .u64 0] 31)).alloc (.cells #[.slice A l.length c] 25)) 25 (.slice A' m.length c')
  simp only [World.size_alloc] at b1 b2
  have hB0 : Below w.heap.size w (((w.alloc (.cells #[.int .u64 0] 31)).alloc (.cells #[.slice A l.length c] 25)).alloc (.cells #[.slice A' m.length c'] 25)) := (((Below.refl _ w).alloc (Nat.le_refl _) _).alloc (by simp) _).alloc (by simp; omega) _
  refine wpIn_rangeFunc_ownG hro h1 (gf := 81) (lb := #[.pointer (some ⟨w.heap.size + 1, 0, none⟩), .pointer (some ⟨w.heap.size + 1 + 1, 0, none⟩)]) rfl f3 (enters_of Try.func81 (by kernel_rfl) rfl)
    (both_stops F (n - 1) f3 hro (by omega) (w.heap.size + 1) (w.heap.size + 1 + 1) w.heap.size A c A' c' l m HL.out ol om _ (by simp) (by simp) (b1.alloc _).cell b2.cell (Kd.C_below HR.out hB0) (Kd.C_below HR'.out hB0) HA.out HA'.out) KpB.trans (KpB.put (by simp; omega)) (Below.refl _ _) (fun _ => rfl)
    (fun pre W => (W.cell? ⟨w.heap.size, 0, none⟩ = some (.int .u64 (distP pre)) ∧ W.frozen? ⟨w.heap.size, 0, none⟩ = false) ∧ Below w.heap.size w W)
    (fun _ _ _ => False)
    (OwnFrom.and (Own.from (fun s A B row hs hg hr => ⟨cell_kept hs.1 hg hr, (frozen_kept hs.1 hg hr).trans hs.2⟩) _) (ownFrom_below (Nat.le_refl _) (by simp; omega)))
    (fun _ _ _ _ _ hs _ _ => hs)
    ⟨⟨((bS.alloc _).alloc _).cell, ((bS.alloc _).alloc _).frozen⟩, hB0⟩
    (fun x => { tmps := #[.slice A l.length c, .slice A' m.length c', undef, undef, .int .u64 0, .pointer (some ⟨w.heap.size, 0, none⟩), .int .i64 x.1, .int .i64 x.2, undef, .slice A l.length c, .slice A' m.length c', .func (.func 81) #[] #[.pointer (some ⟨w.heap.size + 1, 0, none⟩), .pointer (some ⟨w.heap.size + 1 + 1, 0, none⟩)], .int .i64 x.1, .int .i64 x.2, undef, undef, undef, undef, undef, undef, undef, undef, undef, undef, undef, undef, undef, undef], defers := [] }) ?assign ?body ?done ?stop
  case assign =>
    intro y x W K hK
    gi_wp2
    exact hK
  case body =>
    rintro y pre ⟨x, z⟩ W ⟨⟨hc, hf⟩, hB⟩ _
    have HS := Aside0.mk (distP_snoc pre (x, z))
    generalize distP pre = s at hc HS
    gi_wp2
    all_goals
      refine ⟨(KeepsOthers.setCell _ _ _).from _, KpB.set W ⟨w.heap.size, 0, none⟩ _ (Nat.le_refl _) (show w.heap.size ≠ w.heap.size + 1 + 1 by omega), ⟨?_, by rw [World.frozen?_setCell]; exact hf⟩, hB.setCell (p := ⟨w.heap.size, 0, none⟩) (Nat.le_refl _) _⟩
      rw [HS.out, World.cell?_setCell_same' _ _ _ (by rw [hc]; rfl)]
      unfold dstep dgap
      simp only
      first | rw [if_pos (by assumption)] | rw [if_neg (by assumption)] | rw [if_neg (Int.not_lt.2 (by assumption))]
  case done =>
    rintro D ys W hD rfl ⟨⟨hc, _⟩, hB⟩ hK
    gi_wp2
    refine ⟨by simp, .inl ⟨_, _, rfl, run_takeDeferred hK, ?_⟩⟩
    exact ⟨_, results_tmp rfl _ _ _, rfl, hB.trans (belowK_b (w := w) (Nat.le_refl _) W D _ _ (by simp at hD; omega) hK rfl rfl)⟩
  case stop =>
    rintro D c pre W _ _ h _
    exact h.elim

theorem vec_dist.calls (A : Option Addr) (c : Nat) (l : List Int) (A' : Option Addr) (c' : Nat) (m : List Int) (r : Int) (w : World) (hr : Kd.C (Kd.int .i32) w A l.length l) (hc : l.length ≤ c) (hr' : Kd.C (Kd.int .i32) w A' m.length m) (hc' : m.length ≤ c') (h : vec_dist.f l m = some r) :
    Calls Try.prog 58 #[.slice A l.length c, .slice A' m.length c'] w fun e w' => e = .returned (.int .u64 r) ∧ Below w.heap.size w w' := by
  unfold vec_dist.f at h
  split at h
  case isFalse => cases h
  case isTrue h2 =>
  obtain rfl := Option.some.inj h
  exact callsIn_wide.1 (dist_in Fence.wide 3 trivial trivial trivial rfl (Nat.le_refl _) A c A' c' l m h2.1 h2.2.1 h2.2.2 w hr hr')

end Go.Proofs.Ytbdoeikdoohagaa.G
