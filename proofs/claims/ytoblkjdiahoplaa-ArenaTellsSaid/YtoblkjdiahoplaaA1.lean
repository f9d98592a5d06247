/- Contracts of slices.IndexFunc, slices.ContainsFunc over cells, whatever the closure; of arena.Check. -/
import Derived.Test.YtoblkjdiahoplaaA2
import Derived.Test.YtoblkjdiahoplaaPx0
namespace Go.Proofs.Ytoblkjdiahoplaa.G
open Go.Shelf Go.RowKit Go.Proofs.YtoblkjdiahoplaaW.PrintWords Go.Proofs.YtoblkjdiahoplaaW.PrintLast Go.Proofs.YtoblkjdiahoplaaW.PrintMore
set_option linter.unusedVariables false
set_option linter.unusedSimpArgs false

theorem below_trans {w w1 w2 : World} (h1 : Below w.heap.size w w1) (h2 : Below w1.heap.size w1 w2) : Below w.heap.size w w2 := below_step h1 h2

set_option maxHeartbeats 1000000 in
set_option maxRecDepth 100000 in
theorem idx_Cell (A : Option Addr) (c : Nat) (l : List Cell) (K : Nat) (lb : Array Value) (p : Cell → Bool) (w : World) (hr : Kd.C kC w A l.length l)
    (eg : ∀ args w, (callFunc K args).run Try.prog w = .ok (.enter K args) w)
    (hp : ∀ (x : Cell) (A4 : Option Addr) (c4 : Nat) W, x ∈ l → Below w.heap.size w W → x.f2.f2.length ≤ c4 → Kd.C (Kd.int .i32) W A4 x.f2.f2.length x.f2.f2 →
      Calls Try.prog K (#[.agg #[.bool x.f0, .int .u64 x.f1, .int .u64 x.f2.f0, .int .u64 x.f2.f1, .slice A4 x.f2.f2.length c4]] ++ lb) W fun e w' => e = .returned (.bool (p x)) ∧ Below W.heap.size W w') :
    Calls Try.prog 44 #[.slice A l.length c, .func (.func K) #[] lb] w fun e w' => e = .returned (.int .i64 (firstP (fun j => p (P.rd_T36 l ((j : Nat) : Int))) 0 l.length)) ∧ Below w.heap.size w w' := by
  have HA := Aside0.mk hr
  have HP := Aside0.mk hp
  have hn := Kd.C_max hr
  have HB0 := Aside0.mk (Below.refl w.heap.size w)
  obtain ⟨q, hq⟩ : ∃ q : Nat → Bool, q = fun j => p (P.rd_T36 l ((j : Nat) : Int)) := ⟨_, rfl⟩
  rw [← hq]
  have HQ := Aside0.mk hq
  clear hr hp hq
  go_enter Try.func44, Try.ntmps44
  go_wp2
  go_loopg [5, 8] l.length (fun gg _ s8 wr => ∃ kk : Nat, kk ≤ l.length ∧ l.length - kk ≤ gg ∧ s8 = .int .i64 kk ∧ Aside0 (Below w.heap.size w wr) ∧ Aside0 (firstP q 0 l.length = firstP q kk (l.length - kk)))
  case atStart => exact ⟨0, Nat.zero_le _, by omega, rfl, HB0, ⟨rfl⟩⟩
  case round =>
    obtain ⟨kk, hkk, hg, rfl, HBk, HF⟩ := hrel
    by_cases hlt : kk < l.length
    · have hltz : (kk : Int) < (l.length : Int) := by omega
      obtain ⟨ad, A4, c4, hA, h0, h1, h2, h3, h4, hl4, hC4⟩ := P.at_T36 (Kd.C_below HA.out HBk.out) (kk : Int) (by omega) (by omega)
      have hm : P.rd_T36 l (kk : Int) ∈ l := by
        unfold P.rd_T36
        rw [Int.toNat_natCast, List.getD_eq_getElem?_getD, List.getElem?_eq_getElem hlt]
        exact List.getElem_mem hlt
      have hcall := HP.out _ A4 c4 wr hm HBk.out hl4 hC4
      have hqk : q kk = p (P.rd_T36 l (kk : Int)) := by rw [HQ.out]
      subst hA
      simp only [Int.toNat_natCast] at h0 h1 h2 h3 h4
      generalize P.rd_T36 l (kk : Int) = y at *
      cases hq : p y with
      | true =>
        rw [hq] at hcall hqk
        have HC := Aside0.mk hcall
        have HQK := Aside0.mk hqk
        clear hcall hq hqk hm hC4 hl4
        go_wp2_with (go_at_fn K; refine HC.out.mono ?_; rintro e w' ⟨rfl, hb'⟩; have HB' := Aside0.mk (below_trans HBk.out hb'); clear hb')
        go_ret
        refine ⟨?_, HB'.out⟩
        rw [HF.out, firstP_hit HQK.out (by omega)]
        rfl
      | false =>
        rw [hq] at hcall hqk
        have HC := Aside0.mk hcall
        have HQK := Aside0.mk hqk
        clear hcall hq hqk hm hC4 hl4
        go_wp2_with (go_at_fn K; refine HC.out.mono ?_; rintro e w' ⟨rfl, hb'⟩; have HB' := Aside0.mk (below_trans HBk.out hb'); clear hb')
        go_roundg (l.length - (kk + 1))
        case measure => omega
        case rel => exact ⟨kk + 1, by omega, by omega, by go_num, HB', ⟨by rw [HF.out, firstP_miss HQK.out (by omega), show l.length - kk - 1 = l.length - (kk + 1) by omega]⟩⟩
    · have hltz : ¬ (kk : Int) < (l.length : Int) := by omega
      obtain rfl : kk = l.length := by omega
      go_wp2
      go_ret
      refine ⟨?_, HBk.out⟩
      rw [HF.out, Nat.sub_self]
      rfl

end Go.Proofs.Ytoblkjdiahoplaa.G
