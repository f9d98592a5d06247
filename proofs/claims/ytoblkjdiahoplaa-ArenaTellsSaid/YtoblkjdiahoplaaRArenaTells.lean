/- quiver/quiverlaw09.ArenaTells: for every input the call answers true, and each argument reads behind the call as it read before: the row, out of the walk tells_walk. -/
import Derived.Test.YtoblkjdiahoplaaRows
import Derived.Test.YtoblkjdiahoplaaOp
import Derived.Test.YtoblkjdiahoplaaTk
import Derived.Test.YtoblkjdiahoplaaPx0
import Derived.WalkKit
import Derived.ProofKit
import Derived.OpenShut
import Derived.ShutString
import Derived.ChangeOld
import Derived.Below
import Derived.SizedLaws
namespace Go.Proofs.Ytoblkjdiahoplaa.arenaTells
open Go.ChangeShapes Go.WideShapes Go.ChangeAt Go.RowKit Go.Proofs.YtoblkjdiahoplaaW.PrintWords Go.Proofs.Ytoblkjdiahoplaa.G
open Go.ChangeMaps (open_string shut_string)
set_option linter.unusedVariables false
theorem own : ownKnob Try.prog.godebug = none := by kernel_rfl
theorem laidOut : laidOutB Try.prog = true := by kernel_rfl
set_option maxRecDepth 100000 in
theorem lifted (os : Os) (started : os.Started) (H : Type) (enc : TypeId × Value → H) :
    ReturnsInHanded {} Try.checked os 6 .any (Rows.arenaTellsSpec.pre6 enc Try.prog Try.f6 Rows.arenaTellsRow.domain false) (Rows.arenaTellsSpec.post enc Try.prog Try.f6 false true false false) := by
  refine returnsInHanded_of_change_sized (C := Try.checked) own started (by kernel_rfl) Try.func6
    (ChangeSpec.witness6 (enc := enc) (C := Try.checked) false ⟨#[], #[.agg #[.slice none 0 0], .agg #[.slice none 0 0], .int .u64 0], []⟩ 8 (by kernel_rfl) (by kernel_rfl) (by kernel_rfl) (by kernel_rfl)) ?_
  intro W base args ds gs before hval0 hW hcnd hsz0 _
  have hval : ∀ (j : Nat) t v, Try.f6.params[j]? = some t → args[j]? = some v → Value.okWide Try.prog W .any base t v := hval0
  have hW' := hW
  obtain ⟨p, q, hA0, hV, rfl, hfz, hnd⟩ := hW
  have hA : DataW.TrodAll enc Try.prog W 0 (fun _ => true) true Try.f6.params.toList args.toList ds p := hA0
  rw [Try.params6] at hA hval
  obtain ⟨v0, vs0, d0, ds0, p0, q0, hargs, rfl, rfl, h0, r0⟩ := trodAll_cons hA
  obtain ⟨v1, vs1, d1, ds1, p1, q1, rfl, rfl, rfl, h1, r1⟩ := trodAll_cons r0
  obtain ⟨v2, vs2, d2, ds2, p2, q2, rfl, rfl, rfl, h2, r2⟩ := trodAll_cons r1
  obtain ⟨rfl, rfl, rfl⟩ := trodAll_nil r2
  obtain rfl : args = #[v0, v1, v2] := by cases args; simp_all
  obtain ⟨rfl, rfl⟩ := trodVars_none hV
  have k0 := h0
  have lt0 : ∀ x ∈ p0, x.block < W.heap.size := by obtain ⟨m, hm⟩ := k0; exact DataW.trod_lt m _ _ _ hm
  have opens0 := ((Opens.struct (d := (Kd.slice 36 P.k36)) Try.underlying26 (by kernel_rfl) (OpensFs.last (Opens.slice Try.underlying22 (by kernel_rfl) (show Opens _ _ P.k36 _ from Opens.iso (fun x : P.S36 => (x.f0, x.f1, x.f2)) (fun y : (Bool × (Int × P.S34)) => (⟨y.1, y.2.1, y.2.2⟩ : P.S36)) (fun _ => rfl) (Opens.struct (d := (Kd.pair Kd.bool (Kd.pair (Kd.int .u64) P.k34))) Try.underlying36 (by kernel_rfl) (OpensFs.cons (Opens.bool Try.underlying4 (by kernel_rfl)) rfl (OpensFs.cons (Opens.int Try.underlying31 (by kernel_rfl)) rfl (OpensFs.last (show Opens _ _ P.k34 _ from Opens.iso (fun x : P.S34 => (x.f0, x.f1, x.f2)) (fun y : (Int × (Int × (List Int))) => (⟨y.1, y.2.1, y.2.2⟩ : P.S34)) (fun _ => rfl) (Opens.struct (d := (Kd.pair (Kd.int .u64) (Kd.pair (Kd.int .u64) (Kd.slice 21 (Kd.int .i32))))) Try.underlying34 (by kernel_rfl) (OpensFs.cons (Opens.int Try.underlying31 (by kernel_rfl)) rfl (OpensFs.cons (Opens.int Try.underlying31 (by kernel_rfl)) rfl (OpensFs.last (Opens.slice Try.underlying32 (by kernel_rfl) (Opens.int Try.underlying21 (by kernel_rfl))) rfl) (by decide)) (by decide)))) rfl) (by decide)) (by decide))))) rfl)))
  obtain ⟨x0, cs0, rfl, hK0, w0⟩ := open_agg_kd (.inl ⟨_, Try.underlying26⟩) opens0 (hval 0 26 v0 rfl rfl) h0
  have k1 := h1
  have lt1 : ∀ x ∈ p1, x.block < W.heap.size := by obtain ⟨m, hm⟩ := k1; exact DataW.trod_lt m _ _ _ hm
  have opens1 := ((Opens.struct (d := (Kd.slice 36 P.k36)) Try.underlying26 (by kernel_rfl) (OpensFs.last (Opens.slice Try.underlying22 (by kernel_rfl) (show Opens _ _ P.k36 _ from Opens.iso (fun x : P.S36 => (x.f0, x.f1, x.f2)) (fun y : (Bool × (Int × P.S34)) => (⟨y.1, y.2.1, y.2.2⟩ : P.S36)) (fun _ => rfl) (Opens.struct (d := (Kd.pair Kd.bool (Kd.pair (Kd.int .u64) P.k34))) Try.underlying36 (by kernel_rfl) (OpensFs.cons (Opens.bool Try.underlying4 (by kernel_rfl)) rfl (OpensFs.cons (Opens.int Try.underlying31 (by kernel_rfl)) rfl (OpensFs.last (show Opens _ _ P.k34 _ from Opens.iso (fun x : P.S34 => (x.f0, x.f1, x.f2)) (fun y : (Int × (Int × (List Int))) => (⟨y.1, y.2.1, y.2.2⟩ : P.S34)) (fun _ => rfl) (Opens.struct (d := (Kd.pair (Kd.int .u64) (Kd.pair (Kd.int .u64) (Kd.slice 21 (Kd.int .i32))))) Try.underlying34 (by kernel_rfl) (OpensFs.cons (Opens.int Try.underlying31 (by kernel_rfl)) rfl (OpensFs.cons (Opens.int Try.underlying31 (by kernel_rfl)) rfl (OpensFs.last (Opens.slice Try.underlying32 (by kernel_rfl) (Opens.int Try.underlying21 (by kernel_rfl))) rfl) (by decide)) (by decide)))) rfl) (by decide)) (by decide))))) rfl)))
  obtain ⟨x1, cs1, rfl, hK1, w1⟩ := open_agg_kd (.inl ⟨_, Try.underlying26⟩) opens1 (hval 1 26 v1 rfl rfl) h1
  have k2 := h2
  have lt2 : ∀ x ∈ p2, x.block < W.heap.size := by obtain ⟨m, hm⟩ := k2; exact DataW.trod_lt m _ _ _ hm
  obtain ⟨a2, rfl, rfl, rfl, w2⟩ := open_int Try.underlying31 (hval 2 31 v2 rfl rfl) h2
  clear hA0 hval0 hsz0
  refine (tells_walk x0 cs0 x1 cs1 a2 W hK0 w0 hK1 w1 w2).mono fun e W' ⟨he, bel⟩ => ?_
  subst he
  exact ⟨_, rfl, _, _, _, [], _, [], hW', trodAll_mk1 (shut_bool Try.underlying4 _), (trodAll_cons_mk (Below.trod laidOut (by kernel_rfl) (of_decide_eq_true (by kernel_rfl)) k0 bel lt0) (trodAll_cons_mk (Below.trod laidOut (by kernel_rfl) (of_decide_eq_true (by kernel_rfl)) k1 bel lt1) (trodAll_cons_mk (Below.trod laidOut (by kernel_rfl) (of_decide_eq_true (by kernel_rfl)) k2 bel lt2) trodAll_mk0))), rfl, bel.frame _, fun h => by cases h⟩
theorem over : Rows.arenaTellsRow.holds Try.pinned (OpenSpec.ofChange Rows.arenaTellsSpec) :=
  OpenClaim.holds_of_wide 6 Try.f6 rfl rfl rfl rfl rfl rfl rfl ⟨rfl, rfl, rfl, rfl, rfl⟩ rfl rfl rfl rfl rfl (by kernel_rfl) Try.func6 (by kernel_rfl)
    (of_decide_eq_true (by kernel_rfl)) (by unfold Func.isWrapper; first | (rw [if_pos (by decide +kernel)]; kernel_rfl) | (rw [if_neg (by decide +kernel)]; exact ⟨rfl, rfl⟩))
    (fun os started H enc _ => lifted os started H enc)
theorem proved : Rows.ArenaTellsSaid := over
#print axioms proved
end Go.Proofs.Ytoblkjdiahoplaa.arenaTells
namespace Go.Proofs.Ytoblkjdiahoplaa
/-- The row, under a short name, for the claim. -/
theorem arenaTells_holds : Rows.ArenaTellsSaid := arenaTells.proved
end Go.Proofs.Ytoblkjdiahoplaa
