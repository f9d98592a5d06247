/- Contracts of a scan's methods (Num, Int, Bytes, Left, Place, Bad) and of Read, over the seat's translation. -/
import Derived.Test.YtngjaaldidmgjaaG3
namespace Go.Proofs.Ytngjaaldidmgjaa.G
open Go.RowKit Go.Proofs.YtngjaaldidmgjaaW.PrintWords Go.Proofs.YtngjaaldidmgjaaW.PrintLast Go.Proofs.YtngjaaldidmgjaaW.PrintMore
set_option linter.unusedVariables false
set_option linter.unusedSimpArgs false

def isSize (n : Int) : Bool := decide (1 ≤ n ∧ n ≤ 8)
theorem sized (n : Int) (w : World) : Calls Try.prog 102 #[.int .i64 n] w fun e w' => e = .returned (.bool (isSize n)) ∧ w = w' := by
  by_cases h1 : 1 ≤ n
  · by_cases h2 : n ≤ 8
    · have hs : isSize n = true := by simp [isSize, h1, h2]
      have e1 : decide ((1 : Int) ≤ n) = true := decide_eq_true h1
      have e2 : decide (n ≤ (8 : Int)) = true := decide_eq_true h2
      rw [hs]
      clear hs
      go_enter Try.func102, Try.ntmps102
      go_wp2_with fail
      go_returns
      exact ⟨rfl, rfl⟩
    · have hs : isSize n = false := by simp [isSize, h2]
      have e1 : decide ((1 : Int) ≤ n) = true := decide_eq_true h1
      have e2 : decide (n ≤ (8 : Int)) = false := decide_eq_false h2
      rw [hs]
      clear hs
      go_enter Try.func102, Try.ntmps102
      go_wp2_with fail
      go_returns
      exact ⟨rfl, rfl⟩
  · have hs : isSize n = false := by simp [isSize, h1]
    have e1 : decide ((1 : Int) ≤ n) = false := decide_eq_false h1
    rw [hs]
    clear hs
    go_enter Try.func102, Try.ntmps102
    go_wp2_with fail
    go_returns
    exact ⟨rfl, rfl⟩

theorem sizeOr_yes {n : Int} (h : isSize n = true) : sizeOr n = n := by unfold sizeOr; rw [if_pos (by simpa [isSize] using h)]
theorem sizeOr_no {n : Int} (h : isSize n = false) : sizeOr n = -1 := by unfold sizeOr; rw [if_neg (by simpa [isSize] using h)]
theorem sizeOr_le (n : Int) : sizeOr n ≤ 8 := by unfold sizeOr; split <;> omega

set_option maxHeartbeats 1000000 in
set_option maxRecDepth 100000 in
theorem ScNum (base : Nat) (ok : Nat → Prop) (g : Nat) (bs : List Int) (pl : Nat) (bad : Bool) (n : Int) (w : World) (hI : IsScan w base ok g bs pl bad) :
    Calls Try.prog 61 #[.pointer (some ⟨g, 0, none⟩), .int .i64 n] w fun e w' => e = .returned (.int .u64 (num (scTake bs pl bad (sizeOr n)))) ∧
      IsScan w' base ok g bs (scPl bs.length pl bad (sizeOr n)) (scBad bs.length pl bad (sizeOr n)) ∧ Fr (· = g) w w' := by
  have HC := Aside0.mk (fun (W : World) (hf : Fr (fun _ => False) w W) (hB : W.heap[w.heap.size]? = some (.cells #[.int .u64 0] 24 (0, 0))) =>
    off_num base (fun k => ok k ∧ base ≤ k ∧ k < w.heap.size) g bs pl bad (sizeOr n) w.heap.size W (hI.bound.fr hf (fun _ _ h => h)) (sizeOr_le n) (fun h => Nat.lt_irrefl _ h.2.2) hB)
  have HF := Aside0.mk (show Fr (fun _ => False) w (w.alloc (.cells #[.int .u64 0] 24)) from (Fr.refl _ w).alloc _)
  have HB := Aside0.mk (show (w.alloc (.cells #[.int .u64 0] 24)).heap[w.heap.size]? = some (.cells #[.int .u64 0] 24 (0, 0)) from heap_alloc_new w _)
  have HD := Aside0.mk (HC.out _ HF.out HB.out)
  clear HC HB
  cases hs : isSize n with
  | true =>
    rw [sizeOr_yes hs] at HD ⊢
    have HS := Aside0.mk hs
    clear hs hI
    go_enter Try.func61, Try.ntmps61
    go_wp2_with (go_at_call 102; refine (sized n _).mono ?_; rintro e w' ⟨rfl, rfl⟩; simp only [HS.out])
    refine HD.out.mono ?_
    rintro e w1 ⟨rfl, hq, hi, hfr⟩
    have c1 : w1.cell? ⟨w.heap.size, 0, none⟩ = some (.int .u64 (num (scTake bs pl bad n))) := (blk_cell hq 0).trans rfl
    have HI := Aside0.mk hi
    have HR := Aside0.mk hfr
    clear hq hi hfr
    go_wp2_with fail
    go_returns
    exact ⟨rfl, HI.out.mono (fun k h => h.1), (HF.out.mono (fun _ h => h.elim)).then_ HR.out (fun k h => h.elim .inl (fun h => .inr (by omega)))⟩
  | false =>
    rw [sizeOr_no hs] at HD ⊢
    have HS := Aside0.mk hs
    clear hs hI
    go_enter Try.func61, Try.ntmps61
    go_wp2_with (go_at_call 102; refine (sized n _).mono ?_; rintro e w' ⟨rfl, rfl⟩; simp only [HS.out])
    refine HD.out.mono ?_
    rintro e w1 ⟨rfl, hq, hi, hfr⟩
    have c1 : w1.cell? ⟨w.heap.size, 0, none⟩ = some (.int .u64 (num (scTake bs pl bad (-1)))) := (blk_cell hq 0).trans rfl
    have HI := Aside0.mk hi
    have HR := Aside0.mk hfr
    clear hq hi hfr
    go_wp2_with fail
    go_returns
    exact ⟨rfl, HI.out.mono (fun k h => h.1), (HF.out.mono (fun _ h => h.elim)).then_ HR.out (fun k h => h.elim .inl (fun h => .inr (by omega)))⟩

set_option maxHeartbeats 1000000 in
set_option maxRecDepth 100000 in
theorem ScBytes (base : Nat) (ok : Nat → Prop) (g : Nat) (bs : List Int) (pl : Nat) (bad : Bool) (n : Int) (w : World) (hI : IsScan w base ok g bs pl bad) :
    Calls Try.prog 60 #[.pointer (some ⟨g, 0, none⟩), .int .i64 n] w fun e w' => ∃ v, e = .returned v ∧ Kd.R (Kd.int .u8) 5 w' w.heap.size (fun _ => True) v (scTake bs pl bad n) ∧
      IsScan w' base ok g bs (scPl bs.length pl bad n) (scBad bs.length pl bad n) ∧ Fr (· = g) w w' := by
  have HC := Aside0.mk (fun (W : World) (hf : Fr (fun _ => False) w W) (hB : W.heap[w.heap.size]? = some (.cells #[.slice none 0 0] 30 (0, 0))) =>
    off_bytes base (fun k => ok k ∧ base ≤ k ∧ k < w.heap.size) g bs pl bad n w.heap.size W (hI.bound.fr hf (fun _ _ h => h)) (fun h => Nat.lt_irrefl _ h.2.2) hB)
  have HF := Aside0.mk (show Fr (fun _ => False) w (w.alloc (.cells #[.slice none 0 0] 30)) from (Fr.refl _ w).alloc _)
  have HB := Aside0.mk (show (w.alloc (.cells #[.slice none 0 0] 30)).heap[w.heap.size]? = some (.cells #[.slice none 0 0] 30 (0, 0)) from heap_alloc_new w _)
  have HD := Aside0.mk (HC.out _ HF.out HB.out)
  clear HC HB hI
  go_enter Try.func60, Try.ntmps60
  go_wp2_with fail
  refine HD.out.mono ?_
  rintro e w1 ⟨rfl, ⟨v, hq, hv⟩, hi, hfr⟩
  obtain ⟨A, c, rfl⟩ := Kd.R_slice hv
  have c1 : w1.cell? ⟨w.heap.size, 0, none⟩ = some (.slice A (scTake bs pl bad n).length c) := (blk_cell hq 0).trans rfl
  have HV := Aside0.mk hv
  have HI := Aside0.mk hi
  have HR := Aside0.mk hfr
  clear hq hi hfr hv
  go_wp2_with fail
  go_returns
  exact ⟨_, rfl, Kd.R_lower HV.out HF.out.size, HI.out.mono (fun k h => h.1), (HF.out.mono (fun _ h => h.elim)).then_ HR.out (fun k h => h.elim .inl (fun h => .inr (by omega)))⟩

end Go.Proofs.Ytngjaaldidmgjaa.G
