/- quiverlaw07.CodecTakes answers true for every row of bytes. -/
import Derived.Test.YtngjaaldidmgjaaD8
import Derived.Test.YtngjaaldidmgjaaPxTakes
namespace Go.Proofs.Ytngjaaldidmgjaa.G
open Go.Shelf Go.RowKit Go.Proofs.YtngjaaldidmgjaaW.PrintWords Go.Proofs.YtngjaaldidmgjaaW.PrintLast Go.Proofs.YtngjaaldidmgjaaW.PrintMore
set_option linter.unusedVariables false
set_option linter.unusedSimpArgs false

theorem wf_u8 {x : Int} (h : (Lit.int .u8 x).wf = true) : 0 ≤ x ∧ x ≤ 255 := by simpa [Lit.wf, IntKind.min, IntKind.max, IntKind.signed, IntKind.bits] using h
theorem takeVec_f (l : List Int) (hl : l.length ≤ 1000) (hby : ∀ x ∈ l, 0 ≤ x ∧ x ≤ 255) : codec_TakeVec.f l = some (tv l 0) := by
  unfold codec_TakeVec.f
  rw [if_pos ⟨(bytesOk_iff l).2 hby, by omega⟩, takeVR_is]
theorem takeRow_f (l : List Int) (hl : l.length ≤ 1000) (hby : ∀ x ∈ l, 0 ≤ x ∧ x ≤ 255) : codec_TakeRow.f l = some (tr l) := by
  unfold codec_TakeRow.f
  rw [if_pos ⟨(bytesOk_iff l).2 hby, by omega⟩, takeRR_is]
theorem takeVersion_f (l : List Int) (hl : l.length ≤ 1000) (hby : ∀ x ∈ l, 0 ≤ x ∧ x ≤ 255) : codec_TakeVersion.f l = some (tver l) := by
  unfold codec_TakeVersion.f
  rw [if_pos ⟨(bytesOk_iff l).2 hby, by omega⟩, takeVerR_is]
theorem tr_vlen (l : List Int) : (tr l).2.1.length ≤ 4 := by
  unfold tr
  split
  · exact tv_vlen l 8 right
  · simp
theorem tver_vlen (l : List Int) : (tver l).2.2.1.length ≤ 4 := by
  unfold tver
  split
  · split
    · exact tv_vlen l 16 right
    · simp
  · simp
theorem takes_pure (l : List Int) (hby : ∀ x ∈ l, 0 ≤ x ∧ x ≤ 255) : P.quiverlaw07_CodecTakes.f 40 l = some true := by
  unfold P.quiverlaw07_CodecTakes.f
  rw [wakes07_is, Option.bind_some, if_pos rfl]
  by_cases hl : (l.length : Int) > 400
  · rw [if_pos hl]
  · have h1 := tv_vlen l 0 right
    have h2 := tr_vlen l
    have h3 := tver_vlen l
    rw [if_neg hl, takeVec_f l (by omega) hby, Option.bind_some, show (0 : Int) = ((0 : Nat) : Int) from rfl, ref_vec_is l (by omega) hby 0 (by omega) 40 (by omega), Option.bind_some, if_pos rfl, if_pos rfl,
      refsame_is 40 _ _ (by unfold tv; omega) (by unfold tv; omega), Option.bind_some, decide_eq_true rfl, Bool.not_true, P.quiverlaw07_CodecTakes.j0, if_neg (by decide),
      takeRow_f l (by omega) hby, Option.bind_some, ref_row_is l (by omega) hby 39 (by omega), Option.bind_some, if_pos rfl, if_pos rfl, samerow_is 39 _ _ _ _ (by omega) (by omega), Option.bind_some, decide_eq_true ⟨rfl, rfl⟩, Bool.not_true,
      P.quiverlaw07_CodecTakes.j1, if_neg (by decide), takeVersion_f l (by omega) hby, Option.bind_some, ref_ver_is l (by omega) hby 38 (by omega), Option.bind_some, if_pos rfl, if_pos rfl, samever_is 38 _ _ _ _ _ _ (by omega) (by omega), Option.bind_some, decide_eq_true ⟨rfl, rfl, rfl⟩]
theorem codecTakes.walk (A : Option Addr) (c : Nat) (l : List Int) (W : World) (hl : l.length ≤ c) (hC : Kd.C (Kd.int .u8) W A l.length l) (hw : ∀ x ∈ l, (Lit.int .u8 x).wf = true) :
    Calls Try.prog 6 #[.slice A l.length c] W fun e w' => e = .returned (.bool true) ∧ Below W.heap.size W w' := by
  refine (P.quiverlaw07_CodecTakes.calls 40 A c l true W hC hl (takes_pure l (fun x hx => wf_u8 (hw x hx)))).mono ?_
  rintro e w' ⟨he, hd⟩
  exact ⟨he, hd⟩

end Go.Proofs.Ytngjaaldidmgjaa.G
