/- quiver/quiverlaw12.MeansMoved: for every input the call answers true, and each argument reads behind the call as it read before: the row, out of the walk meansMoved.walk. -/
import Derived.Test.YtbdoeikdoohagaaRows
import Derived.Test.YtbdoeikdoohagaaOp
import Derived.Test.YtbdoeikdoohagaaMoved
import Derived.WalkKit
import Derived.ProofKit
import Derived.OpenShut
import Derived.ShutString
import Derived.ChangeOld
import Derived.Below
import Derived.SizedLaws
namespace Go.Proofs.Ytbdoeikdoohagaa.meansMoved
open Go.ChangeShapes Go.WideShapes Go.ChangeAt Go.RowKit Go.Proofs.YtbdoeikdoohagaaW.PrintWords Go.Proofs.Ytbdoeikdoohagaa.G
open Go.ChangeMaps (open_string shut_string)
set_option linter.unusedVariables false
theorem own : ownKnob Try.prog.godebug = none := by kernel_rfl
theorem laidOut : laidOutB Try.prog = true := by kernel_rfl
set_option maxRecDepth 100000 in
theorem lifted (os : Os) (started : os.Started) (H : Type) (enc : TypeId × Value → H) :
    ReturnsInHanded {} Try.checked os 15 .any (Rows.meansMovedSpec.pre6 enc Try.prog Try.f15 Rows.meansMovedRow.domain false) (Rows.meansMovedSpec.post enc Try.prog Try.f15 false true false false) := by
  refine returnsInHanded_of_change_sized (C := Try.checked) own started (by kernel_rfl) Try.func15
    (ChangeSpec.witness6 (enc := enc) (C := Try.checked) false ⟨#[], #[.slice none 0 0, .slice none 0 0, .slice none 0 0], []⟩ 8 (by kernel_rfl) (by kernel_rfl) (by kernel_rfl) (by kernel_rfl)) ?_
  intro W base args ds gs before hval0 hW hcnd hsz0 _
  have hval : ∀ (j : Nat) t v, Try.f15.params[j]? = some t → args[j]? = some v → Value.okWide Try.prog W .any base t v := hval0
  have hW' := hW
  obtain ⟨p, q, hA0, hV, rfl, hfz, hnd⟩ := hW
  have hA : DataW.TrodAll enc Try.prog W 0 (fun _ => true) true Try.f15.params.toList args.toList ds p := hA0
  rw [Try.params15] at hA hval
  obtain ⟨v0, vs0, d0, ds0, p0, q0, hargs, rfl, rfl, h0, r0⟩ := trodAll_cons hA
  obtain ⟨v1, vs1, d1, ds1, p1, q1, rfl, rfl, rfl, h1, r1⟩ := trodAll_cons r0
  obtain ⟨v2, vs2, d2, ds2, p2, q2, rfl, rfl, rfl, h2, r2⟩ := trodAll_cons r1
  obtain ⟨rfl, rfl, rfl⟩ := trodAll_nil r2
  obtain rfl : args = #[v0, v1, v2] := by cases args; simp_all
  obtain ⟨rfl, rfl⟩ := trodVars_none hV
  have k0 := h0
  have lt0 : ∀ x ∈ p0, x.block < W.heap.size := by obtain ⟨m, hm⟩ := k0; exact DataW.trod_lt m _ _ _ hm
  have opens0 := ((Opens.slice Try.underlying22 (by kernel_rfl) (Opens.slice Try.underlying25 (by kernel_rfl) (Opens.int Try.underlying21 (by kernel_rfl)))))
  obtain ⟨A0, c0, l0, rfl, hl0, hC0, w0⟩ := open_slice_kd Try.underlying22 opens0 (hval 0 22 v0 rfl rfl) h0
  have k1 := h1
  have lt1 : ∀ x ∈ p1, x.block < W.heap.size := by obtain ⟨m, hm⟩ := k1; exact DataW.trod_lt m _ _ _ hm
  have opens1 := ((Opens.slice Try.underlying51 (by kernel_rfl) (Opens.int Try.underlying3 (by kernel_rfl))))
  obtain ⟨A1, c1, l1, rfl, hl1, hC1, w1⟩ := open_slice_kd Try.underlying51 opens1 (hval 1 51 v1 rfl rfl) h1
  have k2 := h2
  have lt2 : ∀ x ∈ p2, x.block < W.heap.size := by obtain ⟨m, hm⟩ := k2; exact DataW.trod_lt m _ _ _ hm
  have opens2 := ((Opens.slice Try.underlying25 (by kernel_rfl) (Opens.int Try.underlying21 (by kernel_rfl))))
  obtain ⟨A2, c2, l2, rfl, hl2, hC2, w2⟩ := open_slice_kd Try.underlying25 opens2 (hval 2 25 v2 rfl rfl) h2
  clear hA0 hval0 hsz0
  refine (meansMoved.walk A0 c0 l0 A1 c1 l1 A2 c2 l2 W hl0 hC0 w0 hl1 hC1 w1 hl2 hC2 w2).mono fun e W' ⟨he, bel⟩ => ?_
  subst he
  exact ⟨_, rfl, _, _, _, [], _, [], hW', trodAll_mk1 (shut_bool Try.underlying4 _), (trodAll_cons_mk (Below.trod laidOut (by kernel_rfl) (of_decide_eq_true (by kernel_rfl)) k0 bel lt0) (trodAll_cons_mk (Below.trod laidOut (by kernel_rfl) (of_decide_eq_true (by kernel_rfl)) k1 bel lt1) (trodAll_cons_mk (Below.trod laidOut (by kernel_rfl) (of_decide_eq_true (by kernel_rfl)) k2 bel lt2) trodAll_mk0))), rfl, bel.frame _, fun h => by cases h⟩
theorem over : Rows.meansMovedRow.holds Try.pinned (OpenSpec.ofChange Rows.meansMovedSpec) :=
  OpenClaim.holds_of_wide 15 Try.f15 rfl rfl rfl rfl rfl rfl rfl ⟨rfl, rfl, rfl, rfl, rfl⟩ rfl rfl rfl rfl rfl (by kernel_rfl) Try.func15 (by kernel_rfl)
    (of_decide_eq_true (by kernel_rfl)) (by unfold Func.isWrapper; first | (rw [if_pos (by decide +kernel)]; kernel_rfl) | (rw [if_neg (by decide +kernel)]; exact ⟨rfl, rfl⟩))
    (fun os started H enc _ => lifted os started H enc)
theorem proved : Rows.MeansMovedSaid := over
#print axioms proved
end Go.Proofs.Ytbdoeikdoohagaa.meansMoved
namespace Go.Proofs.Ytbdoeikdoohagaa
/-- The row, under a short name, for the claim. -/
theorem meansMoved_holds : Rows.MeansMovedSaid := meansMoved.proved
end Go.Proofs.Ytbdoeikdoohagaa
