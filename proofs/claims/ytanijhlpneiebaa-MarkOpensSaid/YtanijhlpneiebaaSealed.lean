/- quiverlaw03.MarkSealed answers true, for every row of bytes, place and byte. -/
import Derived.Test.YtanijhlpneiebaaPx6
import Derived.Test.YtanijhlpneiebaaInj
namespace Go.Proofs.Ytanijhlpneiebaa.G
open Go.RowKit Go.Proofs.YtanijhlpneiebaaW.PrintWords Go.Proofs.YtanijhlpneiebaaW.PrintLast Go.Proofs.YtanijhlpneiebaaW.PrintMore
set_option linter.unusedVariables false
set_option linter.unusedSimpArgs false

theorem seal_is (l : List Int) (k : Nat) (hk : 9 ≤ k) (hl : l.length ≤ 20000) (hb : ∀ x ∈ l, 0 ≤ x ∧ x ≤ 255) : P.mark_Seal.f k l = some (l ++ putBytes 8 (ofB l)) := by
  have hOf : P.mark_Of.f l = some (ofB l) := by
    unfold P.mark_Of.f mark_On.f
    rw [if_pos ((bytesOk_iff l).2 hb)]
    rfl
  unfold P.mark_Seal.f
  rw [hOf]
  simp only [Option.bind_some]
  rw [put_is l 8 _ k hk (by omega)]
  rfl
theorem sealed_pure (k : Nat) (hk : 9 ≤ k) (l : List Int) (a b : Int) (hb : ∀ x ∈ l, 0 ≤ x ∧ x ≤ 255) (ha : -9223372036854775808 ≤ a ∧ a ≤ 9223372036854775807) (hc : 0 ≤ b ∧ b ≤ 255) : P.quiverlaw03_MarkSealed.f (k + 1) l a b = some true := by
  unfold P.quiverlaw03_MarkSealed.f
  rw [show wakes03.f = some true from rfl]
  simp only [Option.bind_some, if_true]
  by_cases hl : (l.length : Int) > 20000
  · rw [if_pos hl]
  rw [if_neg hl, seal_is l (k + 1) (by omega) (by omega) hb]
  simp only [Option.bind_some]
  have hsb : ∀ x ∈ l ++ putBytes 8 (ofB l), 0 ≤ x ∧ x ≤ 255 := fun x hx => by
    rcases List.mem_append.1 hx with h | h
    · exact hb x h
    · exact putBytes_range _ _ x h
  have hp : (putBytes 8 (ofB l)).length = 8 := by rw [putBytes_length]; rfl
  have hlen : (l ++ putBytes 8 (ofB l)).length = l.length + 8 := by rw [List.length_append, hp]
  have hO := open_seal l
  have hT := fun q u => open_turned l q u hb
  generalize l ++ putBytes 8 (ofB l) = s at *
  have h1 : mark_Open.f s = some (l, 0) := by
    unfold mark_Open.f
    rw [if_pos ⟨(bytesOk_iff s).2 hsb, by omega⟩, hO]
  rw [h1, Option.bind_some, if_pos rfl, equal_isM l l hb hb, Option.bind_some, if_pos (decide_eq_true rfl)]
  rw [show ((s.length : Int) != wrap64 ((l.length : Int) + 8)) = false by rw [hlen, wrap_idM (by omega) (by omega)]; simp, P.quiverlaw03_MarkSealed.j0, if_neg (by simp)]
  by_cases h0 : b = 0
  · rw [if_pos h0]
  rw [if_neg h0]
  have hw : IntKind.u64.wrap (s.length : Int) = (s.length : Int) := IntWalk.u64_in _ (by omega)
  have hu := wrap_inM a
  obtain ⟨q, hq⟩ : ∃ q : Nat, Int.tmod (IntKind.u64.wrap a) (s.length : Int) = (q : Int) ∧ q < s.length := by
    rw [Int.tmod_eq_emod_of_nonneg hu.1]
    have h2 := Int.emod_nonneg (IntKind.u64.wrap a) (show (s.length : Int) ≠ 0 by omega)
    have h3 := Int.emod_lt_of_pos (IntKind.u64.wrap a) (show (0 : Int) < (s.length : Int) by omega)
    exact ⟨(IntKind.u64.wrap a % (s.length : Int)).toNat, by omega, by omega⟩
  rw [hw, hq.1, if_neg (by omega), if_pos (by omega), if_pos (by omega), Int.toNat_natCast]
  have hqb := hsb _ (List.getElem_mem hq.2)
  have hx := xor8 s[q] b hqb hc
  rw [rd_getM s q hq.2]
  have h4 : mark_Open.f (s.set q (bits .xor .u8 s[q] b)) = some ([], 130) := by
    unfold mark_Open.f
    rw [if_pos ⟨(bytesOk_iff _).2 (set_bytes s q _ hsb hx.1), by simp; omega⟩, hT q _ hx.1 (by omega) (by simpa [List.getD, hq.2] using hx.2 h0)]
  rw [h4]
  simp

theorem markSealed.walk (A : Option Addr) (c : Nat) (l : List Int) (a b : Int) (W : World) (hl : l.length ≤ c) (hC : Kd.C (Kd.int .u8) W A l.length l) (wl : ∀ x ∈ l, (Lit.int .u8 x).wf = true) (wa : (Lit.int .i64 a).wf = true) (wb : (Lit.int .u8 b).wf = true) :
    Calls Try.prog 12 #[.slice A l.length c, .int .i64 a, .int .u8 b] W fun e W' => e = .returned (.bool true) ∧ Below W.heap.size W W' := by
  have ha : -9223372036854775808 ≤ a ∧ a ≤ 9223372036854775807 := by simpa [Lit.wf, IntKind.min, IntKind.max, IntKind.signed, IntKind.bits] using wa
  exact P.quiverlaw03_MarkSealed.calls _ A c l a b true W hC hl (sealed_pure 9 (Nat.le_refl _) l a b (fun x h => wf_u8M (wl x h)) ha (wf_u8M wb))

end Go.Proofs.Ytanijhlpneiebaa.G
