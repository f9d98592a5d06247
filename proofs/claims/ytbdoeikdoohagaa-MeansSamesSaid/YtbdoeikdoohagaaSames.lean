/- quiverlaw12.MeansSames answers true, for every row of rows of vectors. -/
import Derived.Test.YtbdoeikdoohagaaPx8
import Derived.Test.YtbdoeikdoohagaaM2
namespace Go.Proofs.Ytbdoeikdoohagaa.G
open Go.Shelf Go.RowKit Go.Proofs.YtbdoeikdoohagaaW.PrintWords Go.Proofs.YtbdoeikdoohagaaW.PrintLast Go.Proofs.YtbdoeikdoohagaaW.PrintMore
set_option linter.unusedVariables false
set_option linter.unusedSimpArgs false

theorem rdL3_nat (l : List (List (List Int))) (i : Nat) : P.rd_L3 l (i : Int) = l.getD i [] := by unfold P.rd_L3; rw [Int.toNat_natCast]
theorem sames_l0 (l : List (List (List Int))) (hl : l.length ≤ 9223372036854775807) (hin : ∀ i, (l.getD i []).length ≤ 9223372036854775807) : ∀ (d i k : Nat), i + d = l.length → d + mxl l + 100 < k → P.quiverlaw12_MeansSames.l0 k l l (l.length : Int) (i : Int) = some true
  | 0, i, k + 1, h, _ => by
    rw [P.quiverlaw12_MeansSames.l0, if_neg (by omega)]
  | d + 1, i, k + 1, h, hk => by
    have ih := sames_l0 l hl hin d (i + 1) k (by omega) (by omega)
    have h1 := mxl_le l i
    have h2 := mxl_le l 0
    rw [P.quiverlaw12_MeansSames.l0, if_pos (by omega), if_pos (by omega), if_pos (by omega)]
    by_cases h8 : (i : Int) = 8
    · rw [if_pos h8]
    · rw [if_neg h8, rdL3_nat, show P.rd_L3 l 0 = l.getD 0 [] from rdL3_nat l 0, show (20 : Int) = ((20 : Nat) : Int) from rfl, few_is k _ 20 (by omega) (hin i) (by omega), Option.bind_some, if_pos (by omega), few_is k _ 20 (by omega) (hin 0) (by omega), Option.bind_some]
      have hf := few_len 20 (l.getD i [])
      unfold means_Same.f
      rw [Option.bind_some, refsameR_is k _ _ 5 (few_short' 20 _) (by omega) (by omega) (by omega), Option.bind_some, if_neg (by simp), Option.bind_some, Option.bind_some, if_pos (by simp), w64 (by omega) (by omega), show ((i : Int) + 1) = ((i + 1 : Nat) : Int) by omega]
      exact ih
theorem sames_pure (l : List (List (List Int))) (hl : l.length ≤ 9223372036854775807) (hin : ∀ i, (l.getD i []).length ≤ 9223372036854775807) : P.quiverlaw12_MeansSames.f (l.length + mxl l + 101) l = some true := by
  unfold P.quiverlaw12_MeansSames.f
  rw [show wakes12.f = some true from rfl, Option.bind_some, if_pos rfl]
  exact sames_l0 l hl hin l.length 0 _ (by omega) (by omega)

theorem meansSames.walk (A : Option Addr) (c : Nat) (l : List (List (List Int))) (W : World) (hl : l.length ≤ c) (hC : Kd.C (Kd.slice 25 (Kd.slice 21 (Kd.int .i32))) W A l.length l) (wl : ∀ x ∈ l, ∀ y ∈ x, ∀ z ∈ y, (Lit.int .i32 z).wf = true) :
    Calls Try.prog 12 #[.slice A l.length c] W fun e W' => e = .returned (.bool true) ∧ Below W.heap.size W W' :=
  P.quiverlaw12_MeansSames.calls _ A c l true W hC hl (sames_pure l (Kd.C_max hC) (C_inner hC))

end Go.Proofs.Ytbdoeikdoohagaa.G
