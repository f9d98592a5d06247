/- quiverlaw03.MarkPlaces answers true, for every two rows of bytes. -/
import Derived.Test.YtanijhlpneiebaaPx6
import Derived.Test.YtanijhlpneiebaaPl
namespace Go.Proofs.Ytanijhlpneiebaa.G
open Go.RowKit Go.Proofs.YtanijhlpneiebaaW.PrintWords Go.Proofs.YtanijhlpneiebaaW.PrintLast Go.Proofs.YtanijhlpneiebaaW.PrintMore
set_option linter.unusedVariables false
set_option linter.unusedSimpArgs false

theorem same_l0M (l m : List Int) (hlm : l.length = m.length) (hl : l.length < 140737488355328) : ∀ (d i k : Nat), i + d = l.length → d + 1 ≤ k →
    P.quiverref01_Same.l0 k l m (i : Int) = some (decide (l.drop i = m.drop i))
  | 0, i, k + 1, h, _ => by
    rw [P.quiverref01_Same.l0, if_neg (by omega), List.drop_eq_nil_of_le (by omega), List.drop_eq_nil_of_le (by omega)]
    simp
  | d + 1, i, k + 1, h, hk => by
    have hi : i < l.length := by omega
    have hi' : i < m.length := by omega
    rw [P.quiverref01_Same.l0, if_pos (by omega), if_pos (by omega), if_pos (by omega), rd_getM l i hi, rd_getM m i hi', List.drop_eq_getElem_cons hi, List.drop_eq_getElem_cons hi']
    by_cases e : l[i] = m[i]
    · rw [if_pos e, wrap_idM (by omega) (by omega), show ((i : Int) + 1) = ((i + 1 : Nat) : Int) by omega, same_l0M l m hlm hl d (i + 1) k (by omega) (by omega)]
      simp only [List.cons.injEq, e, true_and]
    · rw [if_neg e]
      simp only [List.cons.injEq, e, false_and, decide_false]
theorem same_isM (k : Nat) (l m : List Int) (hl : l.length < 140737488355328) (hk : l.length + 1 ≤ k) : P.quiverref01_Same.f k l m = some (decide (l = m)) := by
  unfold P.quiverref01_Same.f
  by_cases h : l.length = m.length
  · rw [if_pos (by omega)]
    exact same_l0M l m h hl l.length 0 k (by omega) (by omega)
  · have : l ≠ m := fun e => h (by rw [e])
    rw [if_neg (by omega)]
    simp [this]
theorem refplace_l0 (l m : List Int) (hl : l.length < 140737488355328) (hm : m.length < 140737488355328) : ∀ (d i k : Nat), i + d = min l.length m.length → d + 1 ≤ k → l.drop i ≠ m.drop i →
    P.quiverref03_Place.l0 k l m (i : Int) = some (fd (l.drop i) (m.drop i) i)
  | 0, i, k + 1, h, _, hne => by
    rw [P.quiverref03_Place.l0]
    rcases Nat.lt_trichotomy l.length m.length with h1 | h1 | h1
    · rw [if_neg (by omega), List.drop_eq_nil_of_le (show l.length ≤ i by omega), List.drop_eq_getElem_cons (show i < m.length by omega)]
      rfl
    · exact absurd (by rw [List.drop_eq_nil_of_le (by omega), List.drop_eq_nil_of_le (by omega)]) hne
    · rw [if_pos (by omega), if_neg (by omega), List.drop_eq_nil_of_le (show m.length ≤ i by omega), List.drop_eq_getElem_cons (show i < l.length by omega)]
      rfl
  | d + 1, i, k + 1, h, hk, hne => by
    have hi : i < l.length := by omega
    have hi' : i < m.length := by omega
    rw [P.quiverref03_Place.l0, if_pos (by omega), if_pos (by omega), if_pos (by omega), rd_getM l i hi, rd_getM m i hi', List.drop_eq_getElem_cons hi, List.drop_eq_getElem_cons hi', fd]
    by_cases e : l[i] = m[i]
    · rw [if_pos e, if_pos e, wrap_idM (by omega) (by omega), show ((i : Int) + 1) = ((i + 1 : Nat) : Int) by omega]
      refine refplace_l0 l m hl hm d (i + 1) k (by omega) (by omega) fun h2 => hne ?_
      rw [List.drop_eq_getElem_cons hi, List.drop_eq_getElem_cons hi', e, h2]
    · rw [if_neg e, if_neg e]
theorem places_pure (l m : List Int) : P.quiverlaw03_MarkPlaces.f (l.length + m.length + 5) l m = some true := by
  unfold P.quiverlaw03_MarkPlaces.f
  rw [show wakes03.f = some true from rfl]
  simp only [Option.bind_some, if_true]
  rw [show l.length + m.length + 5 = (l.length + m.length + 4) + 1 from rfl]
  by_cases h1 : (l.length : Int) > 20000
  · rw [if_pos h1, P.quiverlaw03_MarkPlaces.j0, if_pos rfl]
  by_cases h2 : (m.length : Int) > 20000
  · rw [if_neg h1, P.quiverlaw03_MarkPlaces.j0, if_pos (by simpa using h2)]
  rw [if_neg h1, P.quiverlaw03_MarkPlaces.j0, if_neg (by simpa using h2), place_isM _ l m (by omega) (by omega) (by omega)]
  simp only [Option.bind_some]
  unfold P.quiverref03_Place.f
  rw [same_isM _ l m (by omega) (by omega)]
  simp only [Option.bind_some]
  rcases fd_spec l m 0 with ⟨rfl, h⟩ | ⟨hne, _⟩
  · rw [if_pos (by simp), h]
    rfl
  · rw [if_neg (by simpa using hne)]
    have := refplace_l0 l m (by omega) (by omega) (min l.length m.length) 0 (l.length + m.length + 4) (by omega) (by omega) (by simpa using hne)
    rw [List.drop_zero, List.drop_zero] at this
    rw [show ((0 : Int)) = ((0 : Nat) : Int) from rfl, this]
    simp

theorem markPlaces.walk (A : Option Addr) (c : Nat) (l : List Int) (B : Option Addr) (d : Nat) (m : List Int) (W : World) (hl : l.length ≤ c) (hC : Kd.C (Kd.int .u8) W A l.length l) (wl : ∀ x ∈ l, (Lit.int .u8 x).wf = true) (hm : m.length ≤ d) (hD : Kd.C (Kd.int .u8) W B m.length m) (wm : ∀ x ∈ m, (Lit.int .u8 x).wf = true) :
    Calls Try.prog 11 #[.slice A l.length c, .slice B m.length d] W fun e W' => e = .returned (.bool true) ∧ Below W.heap.size W W' :=
  P.quiverlaw03_MarkPlaces.calls _ A c l B d m true W hC hl hD hm (places_pure l m)

end Go.Proofs.Ytanijhlpneiebaa.G
