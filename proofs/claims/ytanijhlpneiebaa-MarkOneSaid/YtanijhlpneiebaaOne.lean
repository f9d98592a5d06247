/- quiverlaw03.MarkOne answers true, for every mark, row of bytes and turn. -/
import Derived.Test.YtanijhlpneiebaaPx7
import Derived.Test.YtanijhlpneiebaaInj
import Derived.Test.YtanijhlpneiebaaSealed
import Derived.Test.YtanijhlpneiebaaOp
namespace Go.Proofs.Ytanijhlpneiebaa.G
open Go.RowKit Go.Proofs.YtanijhlpneiebaaW.PrintWords Go.Proofs.YtanijhlpneiebaaW.PrintLast Go.Proofs.YtanijhlpneiebaaW.PrintMore
set_option linter.unusedVariables false
set_option linter.unusedSimpArgs false

theorem fd_set : ∀ (l : List Int) (q : Nat) (u i : Int), q < l.length → u ≠ l.getD q 0 → fd l (l.set q u) i = i + q
  | [], q, u, i, h, _ => by simp at h
  | x :: l, 0, u, i, h, hne => by
    simp only [List.getD_cons_zero] at hne
    simp only [List.set_cons_zero, fd]
    rw [if_neg (fun e => hne e.symm)]
    simp
  | x :: l, q + 1, u, i, h, hne => by
    simp only [List.set_cons_succ, fd, if_true]
    rw [fd_set l q u (i + 1) (by simpa using h) (by simpa using hne)]
    omega
theorem one_pure (m : Int) (l : List Int) (a b : Int) (hm : inM m) (hb : ∀ x ∈ l, 0 ≤ x ∧ x ≤ 255) (hc : 0 ≤ b ∧ b ≤ 255) : P.quiverlaw03_MarkOne.f (l.length + l.length + 5) m l a b = some true := by
  unfold P.quiverlaw03_MarkOne.f
  rw [show wakes03.f = some true from rfl]
  simp only [Option.bind_some, if_true]
  rw [show l.length + l.length + 5 = (l.length + l.length + 4) + 1 from rfl]
  by_cases h0 : (l.length : Int) = 0
  · rw [if_pos h0, P.quiverlaw03_MarkOne.j0, if_pos rfl]
  by_cases h1 : (l.length : Int) > 20000
  · rw [if_neg h0, if_pos h1, P.quiverlaw03_MarkOne.j0, if_pos rfl]
  rw [if_neg h0, if_neg h1, P.quiverlaw03_MarkOne.j0]
  by_cases hz : b = 0
  · rw [if_pos (by simpa using hz)]
  rw [if_neg (by simpa using hz)]
  unfold G.bytes_Clone.f
  rw [if_pos (by omega)]
  simp only [Option.bind_some]
  have hw : IntKind.u64.wrap (l.length : Int) = (l.length : Int) := IntWalk.u64_in _ (by omega)
  have hu := wrap_inM a
  obtain ⟨q, hq⟩ : ∃ q : Nat, Int.tmod (IntKind.u64.wrap a) (l.length : Int) = (q : Int) ∧ q < l.length := by
    rw [Int.tmod_eq_emod_of_nonneg hu.1]
    have h2 := Int.emod_nonneg (IntKind.u64.wrap a) (show (l.length : Int) ≠ 0 by omega)
    have h3 := Int.emod_lt_of_pos (IntKind.u64.wrap a) (show (0 : Int) < (l.length : Int) by omega)
    exact ⟨(IntKind.u64.wrap a % (l.length : Int)).toNat, by omega, by omega⟩
  have hqb := hb _ (List.getElem_mem hq.2)
  have hx := xor8 l[q] b hqb hc
  rw [hw, hq.1, wrap_idM (by omega) (by omega), if_neg (by omega), if_pos (by omega), if_pos (by omega), Int.toNat_natCast, rd_getM l q hq.2]
  generalize bits .xor .u8 l[q] b = u at hx ⊢
  have hne : u ≠ l.getD q 0 := by simpa [List.getD, hq.2] using hx.2 hz
  have hsb := set_bytes l q u hb hx.1
  have e1 : ∀ m, mark_On.f m l = some (l.foldl onStep m) := fun m => by unfold mark_On.f; rw [if_pos ((bytesOk_iff l).2 hb)]
  have e2 : ∀ m, mark_On.f m (l.set q u) = some ((l.set q u).foldl onStep m) := fun m => by unfold mark_On.f; rw [if_pos ((bytesOk_iff _).2 hsb)]
  have n1 := fold_set l q u m hb hx.1 hm hq.2 hne
  have n2 := fold_set l q u 14695981039346656037 hb hx.1 ⟨by omega, by omega⟩ hq.2 hne
  rw [e1, Option.bind_some, e2, Option.bind_some, if_neg n1, place_isM _ l (l.set q u) (by omega) (by rw [List.length_set]; omega) (by rw [List.length_set]; omega), fd_set l q u 0 hq.2 hne]
  rw [Option.bind_some, if_pos (by omega)]
  unfold P.mark_Of.f
  rw [e1, e2]
  simpa using n2

theorem markOne.walk (a : Int) (A : Option Addr) (c : Nat) (l : List Int) (x : Int × Int) (cs : Array Value) (W : World) (wa : (Lit.int .u64 a).wf = true) (hl : l.length ≤ c) (hC : Kd.C (Kd.int .u8) W A l.length l) (wl : ∀ x ∈ l, (Lit.int .u8 x).wf = true)
    (hK : (Kd.pair (Kd.int .i64) (Kd.int .u8)).K W x cs.toList) (wx : (Lit.int .i64 x.1).wf = true ∧ (Lit.int .u8 x.2).wf = true) :
    Calls Try.prog 15 #[.int .u64 a, .slice A l.length c, .agg cs] W fun e W' => e = .returned (.bool true) ∧ Below W.heap.size W W' := by
  obtain ⟨c0, c1, hcs, h0, h1⟩ := hK
  have h0' : c0 = [.int .i64 x.1] := h0
  have h1' : c1 = [.int .u8 x.2] := h1
  obtain rfl : cs = #[.int .i64 x.1, .int .u8 x.2] := by
    apply Array.toList_inj.1
    rw [hcs, h0', h1']
    rfl
  have ha : 0 ≤ a ∧ a ≤ 18446744073709551615 := by simpa [Lit.wf, IntKind.min, IntKind.max, IntKind.signed, IntKind.bits] using wa
  exact P.quiverlaw03_MarkOne.calls _ a A c l x.1 x.2 true W hC hl (one_pure a l x.1 x.2 ⟨ha.1, by omega⟩ (fun x h => wf_u8M (wl x h)) (wf_u8M wx.2))

end Go.Proofs.Ytanijhlpneiebaa.G
