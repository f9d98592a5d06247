/- Contract of slices.Clone at cells. -/
import Derived.Test.YtoblkjdiahoplaaG1
import Derived.Test.YtoblkjdiahoplaaPx0
import Derived.Test.YtoblkjdiahoplaaVC
import Derived.Test.YtoblkjdiahoplaaWNEv
import Derived.Test.YtoblkjdiahoplaaWShare
import Derived.Test.YtoblkjdiahoplaaWMore
namespace Go.Proofs.Ytoblkjdiahoplaa.G
open Go.Shelf Go.RowKit Go.Proofs.YtoblkjdiahoplaaW.PrintWords Go.Proofs.YtoblkjdiahoplaaW.PrintLast Go.Proofs.YtoblkjdiahoplaaW.PrintMore
set_option linter.unusedVariables false
set_option linter.unusedSimpArgs false

abbrev Cell := P.S36
abbrev kC := P.k36
theorem info_Cell : (Try.prog.info? 36).map (fun i => (i.zero, i.size, i.bytes)) = some (some (.agg #[(.bool false), (.int .u64 0), (.int .u64 0), (.int .u64 0), (.slice none 0 0)]), 5, 56) := by kernel_rfl
def clone_Cell.f (l0 : List Cell) : Option (List Cell) := if l0.length < 2513169434916 then some l0 else none

set_option maxHeartbeats 1000000 in
set_option maxRecDepth 100000 in
theorem clone_Cell.calls (P0_ : Nat → Prop) (A0 : Option Addr) (c0 : Nat) (l0 : List Cell) (r : List Cell) (w : World) (hs0 : Kd.V kC 36 w w.heap.size (fun k_ => P0_ k_) (.slice A0 l0.length c0) l0) (h : clone_Cell.f l0 = some r) :
    Calls Try.prog 60 #[.slice A0 l0.length c0] w fun e w' => ∃ v0_ : Value, e = .returned v0_ ∧ Kd.N kC 36 w' w.heap.size (fun k_ => P0_ k_ ∨ w.heap.size ≤ k_) v0_ r ∧ Below w.heap.size w w' := by
  unfold clone_Cell.f at h
  split at h
  case isFalse => cases h
  case isTrue c4 =>
  obtain rfl := Option.some.inj h
  clear h
  have LMc4 := Aside0.mk c4
  have HO0 := Aside0.mk (show Kd.V kC 36 w w.heap.size (fun k_ => P0_ k_ ∨ w.heap.size ≤ k_) (.slice A0 l0.length c0) l0 from Kd.V_mono hs0 (fun k_ hk => .inl hk))
  have HB := Aside0.mk (Below.refl w.heap.size w)
  have hnil : A0 = none → l0 = [] := fun e => by
    obtain ⟨A, c, he, hl, hF⟩ := hs0
    injection he with he
    rcases Nat.eq_zero_or_pos l0.length with h0 | h0
    · exact List.length_eq_zero_iff.1 h0
    · obtain ⟨ad, e2, _⟩ := (Kd.F_now hF).2.2 h0
      rw [← he, e] at e2
      cases e2
  clear c4 hs0
  cases A0 with
  | none =>
    obtain rfl := hnil rfl
    have q1 := fun w => Lib.run_eql_slice_nil (P := Try.prog) w 22 36 none 0 c0 0 0 Try.underlying22
    clear hnil
    go_enter Try.func60, Try.ntmps60
    go_wp2_with fail
    go_ret
    exact ⟨_, rfl, Kd.N_nil _ _ _ _ _, Below.refl _ _⟩
  | some ad =>
    clear hnil
    have q1 := fun w => Lib.run_eql_slice_nil (P := Try.prog) w 22 36 (some ad) l0.length c0 0 0 Try.underlying22
    go_enter Try.func60, Try.ntmps60
    go_wp2_with (first
      | ((with_reducible refine gate_dst (N := 5) rfl ?_); refine Kd.N_lit kC _ 36 ?hg (N' := 5) ?hd (xs := ([] : List Cell)) (inner := []) (ok := fun k_ => P0_ k_ ∨ w.heap.size ≤ k_) (okp := fun k_ => P0_ k_ ∨ w.heap.size ≤ k_) ?hr ?hp (fun _ hk => hk) (.inr (Nat.le_refl _)) (Below.refl _ _) (Nat.le_refl _) (by simp) ?_; (case hd => rfl); (case hg => rfl); (case hr => first | (go_simp; done) | (go_simp; rfl)); (case hp => exact (Reps.none _ _)); intro v113 w9 ho12 hb hg_ hnew_; clear hg_ hnew_; have HO1 := Aside0.mk (Kd.V_elder' HO0.out (Kd.N_base ho12) hb); have HO := Aside0.mk ho12; have HB1 := Aside0.mk hb; clear ho12 hb)
      | ((with_reducible refine gate_builtin (b := .append) (xs := #[.tmp 5, .tmp 6]) rfl ?_); at_builtin; refine Kd.N_append_rows kC (w0 := w) w.heap.size rfl (.tmp 5) (.tmp 6) 22 36 (.agg #[(.bool false), (.int .u64 0), (.int .u64 0), (.int .u64 0), (.slice none 0 0)]) 56 rfl Try.underlying22 info_Cell rfl (by decide) (by omega) v113 [] l0 _ _ _ (fun k_ => P0_ k_ ∨ w.heap.size ≤ k_) (fun k_ => (P0_ k_ ∨ w.heap.size ≤ k_) ∧ some k_ ≠ (v113 : Value).ownBlock) rfl rfl ?aO ?aR (fun _ hk => hk) ?aF ?aB ?aS ?aL ?_; (case aR => exact (Kd.V_F HO1.out)); (case aB => exact HB1.out); (case aF => exact (fun k_ hk => .inr (Nat.le_trans (below_size HB1.out) hk))); (case aO => exact HO.out); (case aS => exact (below_size HB1.out)); (case aL => have := LMc4.out; simp; omega); intro v116 w11 ho hb hg hat; clear hg hat; have HO2 := Aside0.mk ho; have HB2 := Aside0.mk hb; clear ho hb))
    go_ret
    exact ⟨_, rfl, HO2.out, HB2.out⟩

end Go.Proofs.Ytoblkjdiahoplaa.G
