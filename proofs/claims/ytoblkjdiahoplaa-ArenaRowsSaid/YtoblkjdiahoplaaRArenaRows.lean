/- quiver/quiverlaw09.ArenaRows: for every input the call answers true, and each argument reads behind the call as it read before: the row, out of the walk rows_walk. -/
import Derived.Test.YtoblkjdiahoplaaRows
import Derived.Test.YtoblkjdiahoplaaOp
import Derived.Test.YtoblkjdiahoplaaRk
import Derived.Test.YtoblkjdiahoplaaPx0
import Derived.WalkKit
import Derived.ProofKit
import Derived.OpenShut
import Derived.ShutString
import Derived.ChangeOld
import Derived.Below
import Derived.SizedLaws
namespace Go.Proofs.Ytoblkjdiahoplaa.arenaRows
open Go.ChangeShapes Go.WideShapes Go.ChangeAt Go.RowKit Go.Proofs.YtoblkjdiahoplaaW.PrintWords Go.Proofs.Ytoblkjdiahoplaa.G
open Go.ChangeMaps (open_string shut_string)
set_option linter.unusedVariables false
theorem own : ownKnob Try.prog.godebug = none := by kernel_rfl
theorem laidOut : laidOutB Try.prog = true := by kernel_rfl
set_option maxRecDepth 100000 in
theorem lifted (os : Os) (started : os.Started) (H : Type) (enc : TypeId × Value → H) :
    ReturnsInHanded {} Try.checked os 4 .any (Rows.arenaRowsSpec.pre6 enc Try.prog Try.f4 Rows.arenaRowsRow.domain false) (Rows.arenaRowsSpec.post enc Try.prog Try.f4 false true false false) := by
  refine returnsInHanded_of_change_sized (C := Try.checked) own started (by kernel_rfl) Try.func4
    (ChangeSpec.witness6 (enc := enc) (C := Try.checked) false ⟨#[], #[.agg #[.slice none 0 0]], []⟩ 8 (by kernel_rfl) (by kernel_rfl) (by kernel_rfl) (by kernel_rfl)) ?_
  intro W base args ds gs before hval0 hW hcnd hsz0 _
  have hval : ∀ (j : Nat) t v, Try.f4.params[j]? = some t → args[j]? = some v → Value.okWide Try.prog W .any base t v := hval0
  have hW' := hW
  obtain ⟨p, q, hA0, hV, rfl, hfz, hnd⟩ := hW
  have hA : DataW.TrodAll enc Try.prog W 0 (fun _ => true) true Try.f4.params.toList args.toList ds p := hA0
  rw [Try.params4] at hA hval
  obtain ⟨v0, vs0, d0, ds0, p0, q0, hargs, rfl, rfl, h0, r0⟩ := trodAll_cons hA
  obtain ⟨rfl, rfl, rfl⟩ := trodAll_nil r0
  obtain rfl : args = #[v0] := by cases args; simp_all
  obtain ⟨rfl, rfl⟩ := trodVars_none hV
  have k0 := h0
  have lt0 : ∀ x ∈ p0, x.block < W.heap.size := by obtain ⟨m, hm⟩ := k0; exact DataW.trod_lt m _ _ _ hm
  have opens0 := ((Opens.struct (d := (Kd.slice 36 P.k36)) Try.underlying26 (by kernel_rfl) (OpensFs.last (Opens.slice Try.underlying22 (by kernel_rfl) (show Opens _ _ P.k36 _ from Opens.iso (fun x : P.S36 => (x.f0, x.f1, x.f2)) (fun y : (Bool × (Int × P.S34)) => (⟨y.1, y.2.1, y.2.2⟩ : P.S36)) (fun _ => rfl) (Opens.struct (d := (Kd.pair Kd.bool (Kd.pair (Kd.int .u64) P.k34))) Try.underlying36 (by kernel_rfl) (OpensFs.cons (Opens.bool Try.underlying4 (by kernel_rfl)) rfl (OpensFs.cons (Opens.int Try.underlying31 (by kernel_rfl)) rfl (OpensFs.last (show Opens _ _ P.k34 _ from Opens.iso (fun x : P.S34 => (x.f0, x.f1, x.f2)) (fun y : (Int × (Int × (List Int))) => (⟨y.1, y.2.1, y.2.2⟩ : P.S34)) (fun _ => rfl) (Opens.struct (d := (Kd.pair (Kd.int .u64) (Kd.pair (Kd.int .u64) (Kd.slice 21 (Kd.int .i32))))) Try.underlying34 (by kernel_rfl) (OpensFs.cons (Opens.int Try.underlying31 (by kernel_rfl)) rfl (OpensFs.cons (Opens.int Try.underlying31 (by kernel_rfl)) rfl (OpensFs.last (Opens.slice Try.underlying32 (by kernel_rfl) (Opens.int Try.underlying21 (by kernel_rfl))) rfl) (by decide)) (by decide)))) rfl) (by decide)) (by decide))))) rfl)))
  obtain ⟨x0, cs0, rfl, hK0, w0⟩ := open_agg_kd (.inl ⟨_, Try.underlying26⟩) opens0 (hval 0 26 v0 rfl rfl) h0
  clear hA0 hval0 hsz0
  refine (rows_walk x0 cs0 W hK0 w0).mono fun e W' ⟨he, bel⟩ => ?_
  subst he
  exact ⟨_, rfl, _, _, _, [], _, [], hW', trodAll_mk1 (shut_bool Try.underlying4 _), (trodAll_cons_mk (Below.trod laidOut (by kernel_rfl) (of_decide_eq_true (by kernel_rfl)) k0 bel lt0) trodAll_mk0), rfl, bel.frame _, fun h => by cases h⟩
theorem over : Rows.arenaRowsRow.holds Try.pinned (OpenSpec.ofChange Rows.arenaRowsSpec) :=
  OpenClaim.holds_of_wide 4 Try.f4 rfl rfl rfl rfl rfl rfl rfl ⟨rfl, rfl, rfl, rfl, rfl⟩ rfl rfl rfl rfl rfl (by kernel_rfl) Try.func4 (by kernel_rfl)
    (of_decide_eq_true (by kernel_rfl)) (by unfold Func.isWrapper; first | (rw [if_pos (by decide +kernel)]; kernel_rfl) | (rw [if_neg (by decide +kernel)]; exact ⟨rfl, rfl⟩))
    (fun os started H enc _ => lifted os started H enc)
theorem proved : Rows.ArenaRowsSaid := over
#print axioms proved
end Go.Proofs.Ytoblkjdiahoplaa.arenaRows
namespace Go.Proofs.Ytoblkjdiahoplaa
/-- The row, under a short name, for the claim. -/
theorem arenaRows_holds : Rows.ArenaRowsSaid := arenaRows.proved
end Go.Proofs.Ytoblkjdiahoplaa
