/- quiver/quiverlaw24.RecordAlls: for every input the call answers true, and each argument reads behind the call as it read before: the row, out of the walk recordAlls.walk. -/
import Derived.Test.YtngjaaldidmgjaaRows
import Derived.Test.YtngjaaldidmgjaaOp
import Derived.Test.YtngjaaldidmgjaaML
import Derived.Test.YtngjaaldidmgjaaPx0
import Derived.WalkKit
import Derived.ProofKit
import Derived.OpenShut
import Derived.ShutString
import Derived.ChangeOld
import Derived.Below
import Derived.SizedLaws
namespace Go.Proofs.Ytngjaaldidmgjaa.recordAlls
open Go.ChangeShapes Go.WideShapes Go.ChangeAt Go.RowKit Go.Proofs.YtngjaaldidmgjaaW.PrintWords Go.Proofs.Ytngjaaldidmgjaa.G
open Go.ChangeMaps (open_string shut_string)
set_option linter.unusedVariables false
theorem own : ownKnob Try.prog.godebug = none := by kernel_rfl
theorem laidOut : laidOutB Try.prog = true := by kernel_rfl
set_option maxRecDepth 100000 in
theorem lifted (os : Os) (started : os.Started) (H : Type) (enc : TypeId × Value → H) :
    ReturnsInHanded {} Try.checked os 13 .any (Rows.recordAllsSpec.pre6 enc Try.prog Try.f13 Rows.recordAllsRow.domain false) (Rows.recordAllsSpec.post enc Try.prog Try.f13 false true false false) := by
  refine returnsInHanded_of_change_sized (C := Try.checked) own started (by kernel_rfl) Try.func13
    (ChangeSpec.witness6 (enc := enc) (C := Try.checked) false ⟨#[], #[.slice none 0 0, .slice none 0 0], []⟩ 8 (by kernel_rfl) (by kernel_rfl) (by kernel_rfl) (by kernel_rfl)) ?_
  intro W base args ds gs before hval0 hW hcnd hsz0 _
  have hval : ∀ (j : Nat) t v, Try.f13.params[j]? = some t → args[j]? = some v → Value.okWide Try.prog W .any base t v := hval0
  have hW' := hW
  obtain ⟨p, q, hA0, hV, rfl, hfz, hnd⟩ := hW
  have hA : DataW.TrodAll enc Try.prog W 0 (fun _ => true) true Try.f13.params.toList args.toList ds p := hA0
  rw [Try.params13] at hA hval
  obtain ⟨v0, vs0, d0, ds0, p0, q0, hargs, rfl, rfl, h0, r0⟩ := trodAll_cons hA
  obtain ⟨v1, vs1, d1, ds1, p1, q1, rfl, rfl, rfl, h1, r1⟩ := trodAll_cons r0
  obtain ⟨rfl, rfl, rfl⟩ := trodAll_nil r1
  obtain rfl : args = #[v0, v1] := by cases args; simp_all
  obtain ⟨rfl, rfl⟩ := trodVars_none hV
  have k0 := h0
  have lt0 : ∀ x ∈ p0, x.block < W.heap.size := by obtain ⟨m, hm⟩ := k0; exact DataW.trod_lt m _ _ _ hm
  have opens0 := ((Opens.slice Try.underlying22 (by kernel_rfl) (show Opens _ _ P.k28 _ from Opens.iso (fun x : P.S28 => (x.f0, x.f1, x.f2, x.f3, x.f4, x.f5, x.f6)) (fun y : (Int × (Int × (Int × (Int × (Int × ((List P.S87) × (List (List Int)))))))) => (⟨y.1, y.2.1, y.2.2.1, y.2.2.2.1, y.2.2.2.2.1, y.2.2.2.2.2.1, y.2.2.2.2.2.2⟩ : P.S28)) (fun _ => rfl) (Opens.struct (d := (Kd.pair (Kd.int .i64) (Kd.pair (Kd.int .u64) (Kd.pair (Kd.int .u64) (Kd.pair (Kd.int .i64) (Kd.pair (Kd.int .i64) (Kd.pair (Kd.slice 87 P.k87) (Kd.slice 40 (Kd.slice 21 (Kd.int .i32)))))))))) Try.underlying28 (by kernel_rfl) (OpensFs.cons (Opens.int Try.underlying3 (by kernel_rfl)) rfl (OpensFs.cons (Opens.int Try.underlying24 (by kernel_rfl)) rfl (OpensFs.cons (Opens.int Try.underlying24 (by kernel_rfl)) rfl (OpensFs.cons (Opens.int Try.underlying3 (by kernel_rfl)) rfl (OpensFs.cons (Opens.int Try.underlying3 (by kernel_rfl)) rfl (OpensFs.cons (Opens.slice Try.underlying25 (by kernel_rfl) (show Opens _ _ P.k87 _ from Opens.iso (fun x : P.S87 => (x.f0, x.f1, x.f2, x.f3)) (fun y : (Int × (Int × (Bool × (List Int)))) => (⟨y.1, y.2.1, y.2.2.1, y.2.2.2⟩ : P.S87)) (fun _ => rfl) (Opens.struct (d := (Kd.pair (Kd.int .i64) (Kd.pair (Kd.int .u64) (Kd.pair Kd.bool (Kd.slice 21 (Kd.int .i32)))))) Try.underlying87 (by kernel_rfl) (OpensFs.cons (Opens.int Try.underlying3 (by kernel_rfl)) rfl (OpensFs.cons (Opens.int Try.underlying24 (by kernel_rfl)) rfl (OpensFs.cons (Opens.bool Try.underlying4 (by kernel_rfl)) rfl (OpensFs.last (Opens.slice Try.underlying40 (by kernel_rfl) (Opens.int Try.underlying21 (by kernel_rfl))) rfl) (by decide)) (by decide)) (by decide))))) rfl (OpensFs.last (Opens.slice Try.underlying26 (by kernel_rfl) (Opens.slice Try.underlying40 (by kernel_rfl) (Opens.int Try.underlying21 (by kernel_rfl)))) rfl) (by decide)) (by decide)) (by decide)) (by decide)) (by decide)) (by decide))))))
  obtain ⟨A0, c0, l0, rfl, hl0, hC0, w0⟩ := open_slice_kd Try.underlying22 opens0 (hval 0 22 v0 rfl rfl) h0
  have k1 := h1
  have lt1 : ∀ x ∈ p1, x.block < W.heap.size := by obtain ⟨m, hm⟩ := k1; exact DataW.trod_lt m _ _ _ hm
  have opens1 := ((Opens.slice Try.underlying70 (by kernel_rfl) (Opens.slice Try.underlying30 (by kernel_rfl) (Opens.int Try.underlying5 (by kernel_rfl)))))
  obtain ⟨A1, c1, l1, rfl, hl1, hC1, w1⟩ := open_slice_kd Try.underlying70 opens1 (hval 1 70 v1 rfl rfl) h1
  clear hA0 hval0 hsz0
  refine (recordAlls.walk A0 c0 l0 A1 c1 l1 W hl0 hC0 w0 hl1 hC1 w1).mono fun e W' ⟨he, bel⟩ => ?_
  subst he
  exact ⟨_, rfl, _, _, _, [], _, [], hW', trodAll_mk1 (shut_bool Try.underlying4 _), (trodAll_cons_mk (Below.trod laidOut (by kernel_rfl) (of_decide_eq_true (by kernel_rfl)) k0 bel lt0) (trodAll_cons_mk (Below.trod laidOut (by kernel_rfl) (of_decide_eq_true (by kernel_rfl)) k1 bel lt1) trodAll_mk0)), rfl, bel.frame _, fun h => by cases h⟩
theorem over : Rows.recordAllsRow.holds Try.pinned (OpenSpec.ofChange Rows.recordAllsSpec) :=
  OpenClaim.holds_of_wide 13 Try.f13 rfl rfl rfl rfl rfl rfl rfl ⟨rfl, rfl, rfl, rfl, rfl⟩ rfl rfl rfl rfl rfl (by kernel_rfl) Try.func13 (by kernel_rfl)
    (of_decide_eq_true (by kernel_rfl)) (by unfold Func.isWrapper; first | (rw [if_pos (by decide +kernel)]; kernel_rfl) | (rw [if_neg (by decide +kernel)]; exact ⟨rfl, rfl⟩))
    (fun os started H enc _ => lifted os started H enc)
theorem proved : Rows.RecordAllsSaid := over
#print axioms proved
end Go.Proofs.Ytngjaaldidmgjaa.recordAlls
namespace Go.Proofs.Ytngjaaldidmgjaa
/-- The row, under a short name, for the claim. -/
theorem recordAlls_holds : Rows.RecordAllsSaid := recordAlls.proved
end Go.Proofs.Ytngjaaldidmgjaa
