/- quiverlaw07.CodecTaken answers true for every row of bytes. -/
import Derived.Test.YtngjaaldidmgjaaTakes0
import Derived.Test.YtngjaaldidmgjaaPxTaken
namespace Go.Proofs.Ytngjaaldidmgjaa.G
open Go.Shelf Go.RowKit Go.Proofs.YtngjaaldidmgjaaW.PrintWords Go.Proofs.YtngjaaldidmgjaaW.PrintLast Go.Proofs.YtngjaaldidmgjaaW.PrintMore
set_option linter.unusedVariables false
set_option linter.unusedSimpArgs false

theorem taken_pure (l : List Int) (hby : ∀ x ∈ l, 0 ≤ x ∧ x ≤ 255) : P.quiverlaw07_CodecTaken.f 60 l = some true := by
  unfold P.quiverlaw07_CodecTaken.f
  rw [wakes07_is, Option.bind_some, if_pos rfl]
  by_cases hl : (l.length : Int) > 400
  · rw [if_pos hl]
  · have hl4 : l.length ≤ 400 := by omega
    have hB : P.quiverlaw07_CodecTaken.j1 58 l = some true := by
      rw [P.quiverlaw07_CodecTaken.j1, takeVersion_f l (by omega) hby, Option.bind_some]
      by_cases h : (tver l).2.2.2.2 = 0
      · obtain ⟨h1, h2, h3, h4, h5⟩ := tver_ok l hby h
        rw [if_pos h, codec_Version.f, if_pos h1, Option.bind_some, if_pos rfl, if_pos h2, if_pos h3]
        dsimp only
        rw [beq_is 57 _ _ (by omega) (by omega), Option.bind_some, h5, decide_eq_true rfl]
      · rw [if_neg h, tver_no l h, if_pos rfl]
        rfl
    have hA : P.quiverlaw07_CodecTaken.j0 59 l = some true := by
      rw [P.quiverlaw07_CodecTaken.j0, takeRow_f l (by omega) hby, Option.bind_some]
      by_cases h : (tr l).2.2.2 = 0
      · obtain ⟨h1, h2, h3, h4, h5⟩ := tr_ok l hby h
        rw [if_pos h, codec_Row.f, if_pos h1, Option.bind_some, if_pos rfl, if_pos h2, if_pos h3]
        dsimp only
        rw [beq_is 58 _ _ (by omega) (by omega), Option.bind_some, h5, decide_eq_true rfl, if_pos rfl, hB]
      · rw [if_neg h, hB]
    have hj : ∀ k, 59 ≤ k → P.quiverlaw07_CodecTaken.j0 k l = some true := fun k hk => by
      induction hk with
      | refl => exact hA
      | step _ ih => exact (P.quiverlaw07_CodecTaken.mono_l _).1 l true ih
    rw [if_neg hl, takeVec_f l (by omega) hby, Option.bind_some]
    by_cases h : (tv l 0).2.2 = 0
    · obtain ⟨h1, h2, h3, h4, h5⟩ := tv_ok l hby h
      rw [if_pos h, codec_Vec.f, if_pos h1, Option.bind_some, if_pos rfl, if_pos h2, if_pos h3]
      dsimp only
      rw [beq_is 60 _ _ (by omega) (by omega), Option.bind_some, h5, decide_eq_true rfl, if_pos rfl, hj 60 (by omega)]
    · rw [if_neg h, hj 60 (by omega)]
theorem codecTaken.walk (A : Option Addr) (c : Nat) (l : List Int) (W : World) (hl : l.length ≤ c) (hC : Kd.C (Kd.int .u8) W A l.length l) (hw : ∀ x ∈ l, (Lit.int .u8 x).wf = true) :
    Calls Try.prog 9 #[.slice A l.length c] W fun e w' => e = .returned (.bool true) ∧ Below W.heap.size W w' := by
  refine (P.quiverlaw07_CodecTaken.calls 60 A c l true W hC hl (taken_pure l (fun x hx => wf_u8 (hw x hx)))).mono ?_
  rintro e w' ⟨he, hd⟩
  exact ⟨he, hd⟩

end Go.Proofs.Ytngjaaldidmgjaa.G
