/- Contracts of the register's search for a handle: the closure, place, of. -/
import Derived.Test.YtfpicgefmgnfnaaG0
import Derived.Test.YtfpicgefmgnfnaaPx0
import Derived.Shelf.Abstract
import Derived.Deep.LoopGhost
import Derived.WalkKit
namespace Go.Proofs.Ytfpicgefmgnfnaa.G
open Go.Shelf Go.RowKit Go.Proofs.YtfpicgefmgnfnaaW.PrintWords Go.Proofs.YtfpicgefmgnfnaaW.PrintLast Go.Proofs.YtfpicgefmgnfnaaW.PrintMore
set_option linter.unusedVariables false
set_option linter.unusedSimpArgs false

abbrev H := P.S33
/-- The place of the first handle of a number, from a place on; -1: none. -/
def place (num : Int) : Int → List H → Int
  | _, [] => -1
  | i, h :: l => if h.f0 = num then i else place num (i + 1) l
def reg_of.f (a : Int) (l : List H) (num : Int) : Option Int := if l.length < 9223372036854775807 then some (place num 0 l) else none

theorem place_hit (num : Int) : ∀ (l : List H) (i : Int) (k : Nat) (hk : k < l.length), (∀ j (hj : j < k), (l[j]'(by omega)).f0 ≠ num) → (l[k]).f0 = num → place num i l = i + k
  | h :: l, i, 0, hk, hno, hit => by
    have : h.f0 = num := hit
    simp [place, this]
  | h :: l, i, k + 1, hk, hno, hit => by
    have h0 : h.f0 ≠ num := hno 0 (by omega)
    rw [place, if_neg h0, place_hit num l (i + 1) k (by simpa using hk) (fun j hj => hno (j + 1) (by omega)) (by simpa using hit)]
    omega
theorem place_miss (num : Int) : ∀ (l : List H) (i : Int), (∀ j (hj : j < l.length), (l[j]).f0 ≠ num) → place num i l = -1
  | [], _, _ => rfl
  | h :: l, i, hno => by
    have h0 : h.f0 ≠ num := hno 0 (by simp)
    rw [place, if_neg h0, place_miss num l (i + 1) (fun j hj => hno (j + 1) (by simpa using hj))]

set_option maxRecDepth 100000 in
theorem clo (W : World) (x : H) (num : Int) (B : Nat) (hcell : W.cell? ⟨B, 0, none⟩ = some (.int .i64 num)) (hB : B < W.heap.size) :
    Calls Try.prog 28 (#[.agg #[.int .i64 x.f0, .int .u64 x.f1]] ++ #[.pointer (some ⟨B, 0, none⟩)]) W fun e w' => e = .returned (.bool (decide (x.f0 = num))) ∧ Below W.heap.size W w' := by
  have hne : B ≠ W.heap.size := by omega
  show Calls Try.prog 28 #[.agg #[.int .i64 x.f0, .int .u64 x.f1], .pointer (some ⟨B, 0, none⟩)] W _
  go_enter Try.func28, Try.ntmps28
  go_wp2
  all_goals (go_ret; exact ⟨by simp_all [Bool.beq_eq_decide_eq], (Below.refl _ W).alloc (Nat.le_refl _) _⟩)

set_option maxHeartbeats 1000000 in
set_option maxRecDepth 100000 in
theorem place.calls (A : Option Addr) (c : Nat) (l : List H) (num : Int) (B : Nat) (w : World) (hr : Kd.C P.k33 w A l.length l) (hc : l.length ≤ c) (hB : B < w.heap.size) (hcell : w.cell? ⟨B, 0, none⟩ = some (.int .i64 num)) (hbig : l.length < 9223372036854775807) :
    Calls Try.prog 27 #[.slice A l.length c, .func (.func 28) #[] #[.pointer (some ⟨B, 0, none⟩)]] w fun e w' => e = .returned (.int .i64 (place num 0 l)) ∧ Below w.heap.size w w' := by
  have eg : ∀ args w, (callFunc 28 args).run Try.prog w = .ok (.enter 28 args) w := enters_of Try.func28 (by kernel_rfl) rfl
  have HR := Aside0.mk hr
  have HC := Aside0.mk hcell
  clear hr hcell
  go_enter Try.func27, Try.ntmps27
  go_wp2
  go_loopg [9] l.length (fun gg s9 wr => ∃ kk : Nat, kk ≤ l.length ∧ l.length - kk ≤ gg ∧ s9 = .int .i64 kk ∧ Aside0 (Below w.heap.size w wr) ∧ Aside0 (∀ j (hj : j < kk) (hl : j < l.length), (l[j]).f0 ≠ num))
  case atStart => exact ⟨0, Nat.zero_le _, by omega, rfl, ⟨Below.refl _ w⟩, ⟨fun j hj => absurd hj (Nat.not_lt_zero _)⟩⟩
  case round =>
    obtain ⟨kk, hkk, hg, rfl, BW, N⟩ := hrel
    by_cases hlt : kk < l.length
    · have hltz : (kk : Int) < (l.length : Int) := by omega
      obtain ⟨ad, rfl, hx0, hx1⟩ := P.at_T33 HR.out kk (by omega) hltz
      replace hx0 := (BW.out.cell (World.block_lt_of_cell? w _ hx0)).trans hx0
      replace hx1 := (BW.out.cell (World.block_lt_of_cell? w _ hx1)).trans hx1
      simp only [Int.toNat_natCast] at hx0 hx1
      have hy : P.rd_T33 l (kk : Int) = l[kk] := by simp [P.rd_T33, List.getD, hlt]
      generalize hy2 : P.rd_T33 l (kk : Int) = y at hx0 hx1 hy
      have Y := Aside0.mk hy
      clear hy hy2
      have hcl := fun (W : World) (hb : Below w.heap.size w W) => clo W y num B ((hb.cell (p := ⟨B, 0, none⟩) hB).trans HC.out) (Nat.lt_of_lt_of_le hB hb.size)
      by_cases hq : y.f0 = num
      · simp only [hq, decide_true] at hcl
        have HQ := Aside0.mk hq
        go_wp2_with (go_at_fn 28; refine (hcl _ (by first | exact BW.out.alloc BW.out.size _)).mono ?_; rintro e w' ⟨rfl, hb'⟩)
        go_ret
        refine ⟨?_, (BW.out.alloc BW.out.size _).trans (hb'.mono (Nat.le_trans BW.out.size (by simp)))⟩
        rw [place_hit num l 0 kk hlt (fun j hj => N.out j hj (by omega)) (by rw [← Y.out]; exact HQ.out), Int.zero_add]
        rfl
      · simp only [hq, decide_false] at hcl
        have HQ := Aside0.mk hq
        clear hq
        go_wp2_with (go_at_fn 28; refine (hcl _ (by first | exact BW.out.alloc BW.out.size _)).mono ?_; rintro e w' ⟨rfl, hb'⟩)
        go_roundg (l.length - (kk + 1))
        case measure => omega
        case rel =>
          refine ⟨kk + 1, by omega, by omega, by go_num, ⟨(BW.out.alloc BW.out.size _).trans (hb'.mono (Nat.le_trans BW.out.size (by simp)))⟩, ⟨fun j hj hl => ?_⟩⟩
          by_cases e : j = kk
          · subst e
            rw [← Y.out]; exact HQ.out
          · exact N.out j (by omega) hl
    · have hltz : ¬ (kk : Int) < (l.length : Int) := by omega
      go_wp2
      go_ret
      refine ⟨?_, BW.out⟩
      rw [place_miss num l 0 (fun j hj => N.out j (by omega) hj)]
      rfl

set_option maxHeartbeats 1000000 in
set_option maxRecDepth 100000 in
theorem reg_of.calls (a : Int) (A : Option Addr) (c : Nat) (l : List H) (num r : Int) (w : World) (hr : Kd.C P.k33 w A l.length l) (hc : l.length ≤ c) (h : reg_of.f a l num = some r) :
    Calls Try.prog 24 #[.agg #[.int .i64 a, .slice A l.length c], .int .i64 num] w fun e w' => e = .returned (.int .i64 r) ∧ Below w.heap.size w w' := by
  unfold reg_of.f at h
  split at h
  case isFalse => cases h
  case isTrue hbig =>
  obtain rfl := Option.some.inj h
  clear h
  have HR := Aside0.mk hr
  have HBg := Aside0.mk hbig
  have hpl := fun (W : World) (hb : Below w.heap.size w W) (B : Nat) => place.calls A c l num B W (Kd.C_below HR.out hb) hc
  clear hr hbig
  go_enter Try.func24, Try.ntmps24
  go_wp2_with (go_at_call 27; refine (hpl _ (((Below.refl _ w).alloc (Nat.le_refl _) _).alloc (by simp) _) (w.heap.size + 1) (by simp) (by simp) HBg.out).mono ?_; rintro e w' ⟨rfl, hb'⟩)
  go_ret
  exact ⟨rfl, (((Below.refl _ w).alloc (Nat.le_refl _) _).alloc (by simp) _).trans (hb'.mono (by simp; omega))⟩

end Go.Proofs.Ytfpicgefmgnfnaa.G
