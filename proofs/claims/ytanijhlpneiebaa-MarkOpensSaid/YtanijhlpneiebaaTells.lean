/- quiverlaw03.MarkTells answers true, for every mark and row of bytes. -/
import Derived.Test.YtanijhlpneiebaaPx6
import Derived.Test.YtanijhlpneiebaaPlaces
import Derived.Laws.Bits64
namespace Go.Proofs.Ytanijhlpneiebaa.G
open Go.RowKit Go.Proofs.YtanijhlpneiebaaW.PrintWords Go.Proofs.YtanijhlpneiebaaW.PrintLast Go.Proofs.YtanijhlpneiebaaW.PrintMore
set_option linter.unusedVariables false
set_option linter.unusedSimpArgs false

theorem xor_low (a b : Nat) (hb : b < 256) : a ^^^ b = a - a % 256 + ((a % 256) ^^^ b) := by
  have h1 : (a ^^^ b) / 2 ^ 8 = a / 2 ^ 8 ^^^ b / 2 ^ 8 := Nat.xor_div_two_pow
  have h2 : (a ^^^ b) % 2 ^ 8 = (a % 2 ^ 8) ^^^ (b % 2 ^ 8) := Nat.xor_mod_two_pow
  rw [show b / 2 ^ 8 = 0 by omega, Nat.xor_zero] at h1
  rw [show b % 2 ^ 8 = b by omega] at h2
  simp only [Nat.reducePow] at h1 h2
  omega
theorem xor_split (m b : Int) (h0 : 0 ≤ m) (h1 : m < 18446744073709551616) (b0 : 0 ≤ b) (b1 : b ≤ 255) :
    IntKind.u64.wrap (IntKind.u64.wrap (m - m.tmod 256) + bits .xor .u64 (m.tmod 256) (IntKind.u64.wrap b)) = bits .xor .u64 m b ∧ 0 ≤ bits .xor .u64 m b ∧ bits .xor .u64 m b < 18446744073709551616 := by
  obtain ⟨a, rfl⟩ := Int.eq_ofNat_of_zero_le h0
  obtain ⟨c, rfl⟩ := Int.eq_ofNat_of_zero_le b0
  have hm : ((a : Nat) : Int).tmod 256 = ((a % 256 : Nat) : Int) := by rw [Int.tmod_eq_emod_of_nonneg (by omega)]; omega
  rw [hm, IntWalk.u64_in (c : Int) (by omega), bits_xor_u64_nat a c (by omega) (by omega), bits_xor_u64_nat (a % 256) c (by omega) (by omega)]
  have hx := xor_low a c (by omega)
  have hlt : a ^^^ c < 2 ^ 64 := Nat.xor_lt_two_pow (by omega) (by omega)
  simp only [Nat.reducePow] at hlt
  have hle : (a % 256) ^^^ c ≤ a ^^^ c := by omega
  rw [IntWalk.u64_in ((a : Int) - (a % 256 : Nat)) (by omega), IntWalk.u64_in _ (by omega)]
  omega

theorem on_l0 (L : List Int) (hL : L.length ≤ 20000) (hby : ∀ x ∈ L, 0 ≤ x ∧ x ≤ 255) : ∀ (d i k : Nat) (m : Int), i + d = L.length → d + 1 ≤ k → 0 ≤ m → m < 18446744073709551616 →
    P.quiverref03_On.l0 k m L (i : Int) = some ((L.drop i).foldl onStep m)
  | 0, i, k + 1, m, h, _, _, _ => by
    rw [P.quiverref03_On.l0, if_neg (by omega), List.drop_eq_nil_of_le (by omega)]
    rfl
  | d + 1, i, k + 1, m, h, hk, h0, h1 => by
    have hi : i < L.length := by omega
    have hb := hby _ (List.getElem_mem hi)
    obtain ⟨e, _, _⟩ := xor_split m L[i] h0 h1 hb.1 hb.2
    rw [P.quiverref03_On.l0, if_pos (by omega), if_pos (by omega), rd_getM L i hi, e, wrap_idM (by omega) (by omega), show ((i : Int) + 1) = ((i + 1 : Nat) : Int) by omega, List.drop_eq_getElem_cons hi, List.foldl_cons]
    have hr : 0 ≤ onStep m L[i] ∧ onStep m L[i] < 18446744073709551616 := by unfold onStep; rw [IntKind.wrap_u64]; omega
    exact on_l0 L hL hby d (i + 1) k (onStep m L[i]) (by omega) (by omega) hr.1 hr.2
theorem back_l0 (L : List Int) (hL : L.length ≤ 20000) (hby : ∀ x ∈ L, 0 ≤ x ∧ x ≤ 255) : ∀ (i k : Nat) (m : Int), i ≤ L.length → i + 1 ≤ k →
    P.quiverref03_Back.l0 k m L 14886173955864302971 ((i : Int) - 1) = some ((L.take i).reverse.foldl backStep m)
  | 0, k + 1, m, h, _ => by
    rw [P.quiverref03_Back.l0, if_neg (by omega)]
    rfl
  | i + 1, k + 1, m, h, hk => by
    have hi : i < L.length := by omega
    have hb := hby _ (List.getElem_mem hi)
    have hw : 0 ≤ IntKind.u64.wrap (m * 14886173955864302971) ∧ IntKind.u64.wrap (m * 14886173955864302971) < 18446744073709551616 := by rw [IntKind.wrap_u64]; omega
    obtain ⟨e, _, _⟩ := xor_split _ L[i] hw.1 hw.2 hb.1 hb.2
    have e1 : (((i + 1 : Nat) : Int) - 1) = (i : Int) := by omega
    rw [e1, P.quiverref03_Back.l0, if_pos (by omega), if_pos (by omega), if_pos (by omega), rd_getM L i hi, e, wrap_idM (by omega) (by omega), List.take_succ_eq_append_getElem hi, List.reverse_append]
    exact back_l0 L hL hby i k _ (by omega) (by omega)

theorem inv_is : ∀ d : Nat, P.quiverref03_inverse.f (63 + d) = some 14886173955864302971
  | 0 => by decide +kernel
  | d + 1 => P.quiverref03_inverse.mono (63 + d) _ (inv_is d)

theorem tells_pure (a : Int) (l : List Int) (h0 : 0 ≤ a) (h1 : a < 18446744073709551616) (hby : ∀ x ∈ l, 0 ≤ x ∧ x ≤ 255) : P.quiverlaw03_MarkTells.f (63 + (l.length + 5)) a l = some true := by
  unfold P.quiverlaw03_MarkTells.f
  rw [show wakes03.f = some true from rfl]
  simp only [Option.bind_some, if_true]
  by_cases hl : (l.length : Int) > 20000
  · rw [if_pos hl]
  have hok : bytesOk l = true := (bytesOk_iff l).2 hby
  have hOn : ∀ m : Int, 0 ≤ m → m < 18446744073709551616 → P.quiverref03_On.f (63 + (l.length + 5)) m l = some (l.foldl onStep m) := by
    intro m m0 m1
    unfold P.quiverref03_On.f
    have := on_l0 l (by omega) hby l.length 0 (63 + (l.length + 5)) m (by omega) (by omega) m0 m1
    rw [List.drop_zero] at this
    exact this
  have hOf : P.mark_Of.f l = some (l.foldl onStep 14695981039346656037) := by
    unfold P.mark_Of.f mark_On.f
    rw [if_pos hok]
    rfl
  have hBack : P.quiverref03_Back.f (63 + (l.length + 5)) a l = some (backAll a l) := by
    unfold P.quiverref03_Back.f
    rw [inv_is]
    simp only [Option.bind_some]
    have := back_l0 l (by omega) hby l.length (63 + (l.length + 5)) a (Nat.le_refl _) (by omega)
    rw [List.take_length] at this
    rw [wrap_idM (by omega) (by omega)]
    exact this
  rw [if_neg hl, if_pos (by simp; omega), List.nil_append, hOf]
  simp only [Option.bind_some]
  unfold P.quiverref03_Of.f
  rw [hOn _ (by omega) (by omega)]
  simp only [Option.bind_some, if_true]
  rw [hOn a h0 h1, hBack]
  unfold mark_On.f mark_Back.f
  simp only [hok, if_true, Option.bind_some]
  rw [same_isM _ l l (by omega) (by omega)]
  simp

theorem markTells.walk (a : Int) (A : Option Addr) (c : Nat) (l : List Int) (W : World) (wa : (Lit.int .u64 a).wf = true) (hl : l.length ≤ c) (hC : Kd.C (Kd.int .u8) W A l.length l) (wl : ∀ x ∈ l, (Lit.int .u8 x).wf = true) :
    Calls Try.prog 9 #[.int .u64 a, .slice A l.length c] W fun e W' => e = .returned (.bool true) ∧ Below W.heap.size W W' := by
  have hx : 0 ≤ a ∧ a ≤ 18446744073709551615 := by simpa [Lit.wf, IntKind.min, IntKind.max, IntKind.signed, IntKind.bits] using wa
  exact P.quiverlaw03_MarkTells.calls _ a A c l true W hC hl (tells_pure a l hx.1 (by omega) (fun x h => wf_u8M (wl x h)))

end Go.Proofs.Ytanijhlpneiebaa.G
