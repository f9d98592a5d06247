/- quiverlaw03.MarkFirst answers true, for every two rows of bytes. -/
import Derived.Test.YtanijhlpneiebaaPxF
import Derived.Test.YtanijhlpneiebaaPl
namespace Go.Proofs.Ytanijhlpneiebaa.G
open Go.RowKit Go.Proofs.YtanijhlpneiebaaW.PrintWords Go.Proofs.YtanijhlpneiebaaW.PrintLast Go.Proofs.YtanijhlpneiebaaW.PrintMore
set_option linter.unusedVariables false
set_option linter.unusedSimpArgs false

theorem first_pure (l m : List Int) (hl : l.length ≤ 9223372036854775807) (hm : m.length ≤ 9223372036854775807) (bl : ∀ x ∈ l, 0 ≤ x ∧ x ≤ 255) (bm : ∀ x ∈ m, 0 ≤ x ∧ x ≤ 255) : P.quiverlaw03_MarkFirst.f (l.length + m.length + 5) l m = some true := by
  unfold P.quiverlaw03_MarkFirst.f
  rw [show wakes03.f = some true from rfl]
  simp only [Option.bind_some, if_true]
  rw [place_isM _ l m hl hm (by omega)]
  simp only [Option.bind_some]
  rw [place_isM _ m l hm hl (by omega)]
  simp only [Option.bind_some]
  rw [if_pos (fd_comm l m 0), equal_isM l m bl bm]
  simp only [Option.bind_some]
  rw [show l.length + m.length + 5 = (l.length + m.length + 4) + 1 from rfl, P.quiverlaw03_MarkFirst.j0]
  rcases fd_spec l m 0 with ⟨rfl, h2⟩ | ⟨h1, q, h2, h3, h4, h5, h6⟩
  · rw [h2, if_neg (by simp), if_pos (by omega)]
    have hOf : P.mark_Of.f l = some (l.foldl onStep 14695981039346656037) := by
      unfold P.mark_Of.f mark_On.f
      rw [if_pos ((bytesOk_iff l).2 bl)]
      rfl
    rw [hOf]
    simp
  · have hq : fd l m 0 = (q : Int) := by omega
    rw [hq, if_neg (by simp [h1]), if_neg (by omega), if_neg (by omega), if_neg (by omega), if_pos (by omega), if_pos (by omega), if_pos (by omega), Int.toNat_natCast,
      equal_isM _ _ (fun x hx => bl x (List.mem_of_mem_take hx)) (fun x hx => bm x (List.mem_of_mem_take hx))]
    simp only [Option.bind_some, h5, decide_true, if_true]
    rcases h6 with h6 | ⟨h6, h7, h8⟩
    · rw [if_pos (by unfold mn; split <;> omega)]
    · rw [if_neg (by unfold mn; split <;> omega), if_pos (by omega), if_pos (by omega)]
      have e : ∀ l : List Int, rd l (q : Int) = l.getD q 0 := fun l => by simp [rd]
      rw [e, e]
      simpa using h8

theorem markFirst.walk (A : Option Addr) (c : Nat) (l : List Int) (B : Option Addr) (d : Nat) (m : List Int) (W : World) (hl : l.length ≤ c) (hC : Kd.C (Kd.int .u8) W A l.length l) (wl : ∀ x ∈ l, (Lit.int .u8 x).wf = true) (hm : m.length ≤ d) (hD : Kd.C (Kd.int .u8) W B m.length m) (wm : ∀ x ∈ m, (Lit.int .u8 x).wf = true) :
    Calls Try.prog 13 #[.slice A l.length c, .slice B m.length d] W fun e W' => e = .returned (.bool true) ∧ Below W.heap.size W W' :=
  P.quiverlaw03_MarkFirst.calls _ A c l B d m true W hC hl hD hm (first_pure l m (Kd.C_max hC) (Kd.C_max hD) (fun x h => wf_u8M (wl x h)) (fun x h => wf_u8M (wm x h)))

end Go.Proofs.Ytanijhlpneiebaa.G
