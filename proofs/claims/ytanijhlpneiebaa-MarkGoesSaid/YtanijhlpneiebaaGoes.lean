/- quiverlaw03.MarkGoes answers true, for every two marks and two rows of bytes. -/
import Derived.Test.YtanijhlpneiebaaQx3
import Derived.Test.YtanijhlpneiebaaInj
import Derived.Test.YtanijhlpneiebaaOp
namespace Go.Proofs.Ytanijhlpneiebaa.G
open Go.RowKit Go.Proofs.YtanijhlpneiebaaW.PrintWords Go.Proofs.YtanijhlpneiebaaW.PrintLast Go.Proofs.YtanijhlpneiebaaW.PrintMore
set_option linter.unusedVariables false
set_option linter.unusedSimpArgs false

theorem on_f (m : Int) (l : List Int) (hb : ∀ x ∈ l, 0 ≤ x ∧ x ≤ 255) : mark_On.f m l = some (l.foldl onStep m) := by unfold mark_On.f; rw [if_pos ((bytesOk_iff l).2 hb)]
theorem back_f (m : Int) (l : List Int) (hb : ∀ x ∈ l, 0 ≤ x ∧ x ≤ 255) : mark_Back.f m l = some (backAll m l) := by unfold mark_Back.f; rw [if_pos ((bytesOk_iff l).2 hb)]
theorem ofQ_f (l : List Int) (hb : ∀ x ∈ l, 0 ≤ x ∧ x ≤ 255) : Q.mark_Of.f l = some (l.foldl onStep 14695981039346656037) := by unfold Q.mark_Of.f; rw [on_f _ l hb]; rfl
theorem goes_pure (m n : Int) (l b : List Int) (hm : inM m) (hn : inM n) (hl : ∀ x ∈ l, 0 ≤ x ∧ x ≤ 255) (hb : ∀ x ∈ b, 0 ≤ x ∧ x ≤ 255) : Q.quiverlaw03_MarkGoes.f 5 m n l b = some true := by
  unfold Q.quiverlaw03_MarkGoes.f
  rw [show wakes03.f = some true from rfl, Option.bind_some, if_pos rfl, show (5 : Nat) = 4 + 1 from rfl]
  by_cases h1 : (l.length : Int) > 10000
  · rw [if_pos h1, Q.quiverlaw03_MarkGoes.j0, if_pos rfl]
  by_cases h2 : (b.length : Int) > 10000
  · rw [if_neg h1, Q.quiverlaw03_MarkGoes.j0, if_pos (by simpa using h2)]
  have hlb : ∀ x ∈ l ++ b, 0 ≤ x ∧ x ≤ 255 := fun x hx => (List.mem_append.1 hx).elim (hl x) (hb x)
  have hml := fold_inM l m hm
  have e1 : (l ++ b).foldl onStep m = b.foldl onStep (l.foldl onStep m) := List.foldl_append
  rw [if_neg h1, Q.quiverlaw03_MarkGoes.j0, if_neg (by simpa using h2)]
  unfold bytes_Clone.f
  rw [if_pos (by omega), Option.bind_some, if_pos (by omega), Option.bind_some, on_f m l hl, Option.bind_some, on_f _ b hb, Option.bind_some, on_f m _ hlb, Option.bind_some, e1, if_pos rfl, back_f _ _ hlb, Option.bind_some, ← e1, fold_back _ m hlb hm, if_pos rfl, e1, back_f _ b hb, Option.bind_some, fold_back b _ hb hml, Option.bind_some, if_pos rfl, back_f m l hl, Option.bind_some, on_f _ l hl, Option.bind_some, back_fold l m hl hm, show (4 : Nat) = 3 + 1 from rfl, Q.quiverlaw03_MarkGoes.j1, if_neg (by simp), ofQ_f _ hlb, Option.bind_some, ofQ_f l hl, Option.bind_some, on_f _ b hb, Option.bind_some, if_pos List.foldl_append, on_f n _ hlb, Option.bind_some, ← e1]
  by_cases e : m = n
  · subst e; simp
  · have : (l ++ b).foldl onStep n ≠ (l ++ b).foldl onStep m := fun h => e (fold_inj _ n m hlb hn hm h).symm
    rw [show (l ++ b).foldl onStep n = (l ++ b).foldl onStep n from rfl, beq_eq_false_iff_ne.2 this, beq_eq_false_iff_ne.2 e]
    rfl

theorem arr2 {W : World} {x : List Int} {cs : Array Value} (hK : (Kd.arr 2 (Kd.int .u64) (by decide)).K W x cs.toList) : ∃ m n, x = [m, n] ∧ cs = #[.int .u64 m, .int .u64 n] := by
  obtain ⟨hx, hl, hr⟩ := hK
  match x, hx with
  | [m, n], _ =>
    have h0 : (cs.toList.drop (0 * 1)).take 1 = [.int .u64 m] := hr 0 m rfl
    have h1 : (cs.toList.drop (1 * 1)).take 1 = [.int .u64 n] := hr 1 n rfl
    have hl' : cs.toList.length = 2 := hl
    refine ⟨m, n, rfl, ?_⟩
    apply Array.toList_inj.1
    generalize cs.toList = c at *
    match c, hl' with
    | [u, v], _ =>
      simp at h0 h1
      rw [h0, h1]

theorem markGoes.walk (x : List Int) (cs : Array Value) (A : Option Addr) (c : Nat) (l : List Int) (B : Option Addr) (d : Nat) (b : List Int) (W : World) (hK : (Kd.arr 2 (Kd.int .u64) (by decide)).K W x cs.toList) (wx : ∀ y ∈ x, (Lit.int .u64 y).wf = true)
    (hl : l.length ≤ c) (hC : Kd.C (Kd.int .u8) W A l.length l) (wl : ∀ x ∈ l, (Lit.int .u8 x).wf = true) (hb : b.length ≤ d) (hD : Kd.C (Kd.int .u8) W B b.length b) (wb : ∀ x ∈ b, (Lit.int .u8 x).wf = true) :
    Calls Try.prog 14 #[.agg cs, .slice A l.length c, .slice B b.length d] W fun e W' => e = .returned (.bool true) ∧ Below W.heap.size W W' := by
  obtain ⟨m, n, rfl, rfl⟩ := arr2 hK
  have w0 : 0 ≤ m ∧ m ≤ 18446744073709551615 := by simpa [Lit.wf, IntKind.min, IntKind.max, IntKind.signed, IntKind.bits] using wx m (by simp)
  have w1 : 0 ≤ n ∧ n ≤ 18446744073709551615 := by simpa [Lit.wf, IntKind.min, IntKind.max, IntKind.signed, IntKind.bits] using wx n (by simp)
  exact Q.quiverlaw03_MarkGoes.calls 5 m n A c l B d b true W hC hl hD hb (goes_pure m n l b ⟨w0.1, by omega⟩ ⟨w1.1, by omega⟩ (fun x h => wf_u8M (wl x h)) (fun x h => wf_u8M (wb x h)))

end Go.Proofs.Ytanijhlpneiebaa.G
