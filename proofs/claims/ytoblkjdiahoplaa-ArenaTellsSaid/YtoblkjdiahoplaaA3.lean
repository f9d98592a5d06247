/- Contracts of slices.ContainsFunc over cells, arena.Check. -/
import Derived.Test.YtoblkjdiahoplaaA1
import Derived.Test.YtoblkjdiahoplaaV1
import Derived.Test.YtoblkjdiahoplaaPx6
namespace Go.Proofs.Ytoblkjdiahoplaa.G
open Go.Shelf Go.RowKit Go.Proofs.YtoblkjdiahoplaaW.PrintWords Go.Proofs.YtoblkjdiahoplaaW.PrintLast Go.Proofs.YtoblkjdiahoplaaW.PrintMore
set_option linter.unusedVariables false
set_option linter.unusedSimpArgs false

/-- May a version be? -/
def rightVer (b e : Int) (v : List Int) : Bool := right v && decide (1 ≤ b ∧ b ≤ 1099511627776) && decide (e = 0 ∨ (b < e ∧ e ≤ 1099511627776))
theorem checkver_is (b e : Int) (v : List Int) : P.codec_CheckVersion.f b e v = some (if rightVer b e v = true then 0 else 171) := by
  unfold P.codec_CheckVersion.f vec_Check.f checkV rightVer
  cases hr : right v with
  | false =>
    simp only [Bool.false_and]
    split
    · rfl
    · split
      · rfl
      · rfl
  | true =>
    simp only [Bool.true_and, if_true, Option.bind_some]
    by_cases h1 : b < 1
    · rw [decide_eq_false (show ¬ (1 ≤ b ∧ b ≤ 1099511627776) by omega), if_pos h1]
      simp [h1]
    · by_cases h2 : b > 1099511627776
      · rw [decide_eq_false (show ¬ (1 ≤ b ∧ b ≤ 1099511627776) by omega)]
        simp [h1, h2]
      · rw [decide_eq_true (show 1 ≤ b ∧ b ≤ 1099511627776 by omega)]
        by_cases h3 : e = 0
        · simp [h1, h2, h3]
        · by_cases h4 : e > b
          · by_cases h5 : e ≤ 1099511627776
            · rw [decide_eq_true (show e = 0 ∨ (b < e ∧ e ≤ 1099511627776) by omega)]
              simp [h1, h2, h3, h4, h5]
            · rw [decide_eq_false (show ¬ (e = 0 ∨ (b < e ∧ e ≤ 1099511627776)) by omega)]
              simp [h1, h2, h3, h4, h5]
          · rw [decide_eq_false (show ¬ (e = 0 ∨ (b < e ∧ e ≤ 1099511627776)) by omega)]
            simp [h1, h2, h3, h4]
/-- May a cell be? -/
def cellOk (x : Cell) : Bool := if x.f0 = true then rightVer x.f2.f0 x.f2.f1 x.f2.f2 else decide (x.f1 = 0 ∧ x.f2.f0 = 0 ∧ x.f2.f1 = 0 ∧ x.f2.f2 = [])
theorem right_f (x : Cell) : P.arena_right.f x.f0 x.f1 x.f2.f0 x.f2.f1 x.f2.f2 = some (cellOk x) := by
  unfold P.arena_right.f cellOk
  by_cases h : x.f0 = true
  · rw [if_pos h, if_pos h, checkver_is, Option.bind_some]
    cases rightVer x.f2.f0 x.f2.f1 x.f2.f2 <;> rfl
  · rw [if_neg h, if_neg h]
    by_cases h1 : x.f1 = 0
    · rw [if_pos h1, codec_SameVersion.f, Option.bind_some]
      simp [h1]
    · rw [if_neg h1]
      simp [h1]
def arenaOk (l : List Cell) : Bool := decide (l.length = 96) && l.all cellOk
def arena_Check.f (l : List Cell) : Option Int := some (if arenaOk l = true then 0 else 190)

set_option maxHeartbeats 1000000 in
set_option maxRecDepth 100000 in
theorem wrong_is (x : Cell) (A4 : Option Addr) (c4 : Nat) (W : World) (hl : x.f2.f2.length ≤ c4) (hC : Kd.C (Kd.int .i32) W A4 x.f2.f2.length x.f2.f2) :
    Calls Try.prog 39 (#[.agg #[.bool x.f0, .int .u64 x.f1, .int .u64 x.f2.f0, .int .u64 x.f2.f1, .slice A4 x.f2.f2.length c4]] ++ #[]) W fun e w' => e = .returned (.bool (!cellOk x)) ∧ Below W.heap.size W w' := by
  obtain ⟨w1, hw1⟩ : ∃ w1, w1 = W.alloc (.cells #[.bool x.f0, .int .u64 x.f1, .int .u64 x.f2.f0, .int .u64 x.f2.f1, .slice A4 x.f2.f2.length c4] 36) := ⟨_, rfl⟩
  have HB1 := Aside0.mk (show Below W.heap.size W w1 by rw [hw1]; exact (Below.refl _ _).alloc (Nat.le_refl _) _)
  have hblk : w1.heap[W.heap.size]? = some (.cells #[.bool x.f0, .int .u64 x.f1, .int .u64 x.f2.f0, .int .u64 x.f2.f1, .slice A4 x.f2.f2.length c4] 36 (0, 0)) := by rw [hw1]; exact heap_alloc_new W _
  have HR := Aside0.mk (P.arena_right.calls x.f0 x.f1 x.f2.f0 x.f2.f1 A4 c4 x.f2.f2 (cellOk x) w1 (Kd.C_below hC HB1.out) hl (right_f x))
  generalize cellOk x = ok at *
  have q0 : w1.cell? ⟨W.heap.size, 0, none⟩ = some (.bool x.f0) := (blk_cell hblk 0).trans rfl
  have q1 : w1.cell? ⟨W.heap.size, 1, none⟩ = some (.int .u64 x.f1) := (blk_cell hblk 1).trans rfl
  have q2 : w1.cell? ⟨W.heap.size, 2, none⟩ = some (.int .u64 x.f2.f0) := (blk_cell hblk 2).trans rfl
  have q3 : w1.cell? ⟨W.heap.size, 3, none⟩ = some (.int .u64 x.f2.f1) := (blk_cell hblk 3).trans rfl
  have q4 : w1.cell? ⟨W.heap.size, 4, none⟩ = some (.slice A4 x.f2.f2.length c4) := (blk_cell hblk 4).trans rfl
  have HW := Aside0.mk hw1
  clear hblk hw1 hC hl
  go_enter Try.func39, Try.ntmps39
  go_upto_region 1 with (fail)
  rw [← HW.out]
  go_wp2_with fail
  refine HR.out.mono ?_
  rintro e w2 ⟨rfl, hd⟩
  have HB := Aside0.mk (below_step HB1.out hd)
  clear hd
  go_wp2_with fail
  go_returns
  exact ⟨rfl, HB.out⟩
theorem any_T (l : List Cell) (p : Cell → Bool) : (List.range' 0 l.length).any (fun j => p (P.rd_T36 l ((j : Nat) : Int))) = l.any p := by
  have := any_at l p P.z36
  unfold P.rd_T36
  simpa using this

set_option maxHeartbeats 1000000 in
set_option maxRecDepth 100000 in
theorem con_wrong (A : Option Addr) (c : Nat) (l : List Cell) (w : World) (hr : Kd.C kC w A l.length l) :
    Calls Try.prog 40 #[.slice A l.length c, .func (.func 39) #[] #[]] w fun e w' => e = .returned (.bool (!l.all cellOk)) ∧ Below w.heap.size w w' := by
  have HI := Aside0.mk (idx_Cell A c l 39 #[] (fun x => !cellOk x) w hr (enters_of Try.func39 (by kernel_rfl) rfl) (fun x A4 c4 W _ _ hl hC => wrong_is x A4 c4 W hl hC))
  have HE := Aside0.mk (firstP_nonneg (fun j => !cellOk (P.rd_T36 l ((j : Nat) : Int))) l.length 0)
  rw [any_T l (fun x => !cellOk x)] at HE
  have hall : l.any (fun x => !cellOk x) = !l.all cellOk := by
    rw [← List.not_all_eq_any_not]
  rw [hall] at HE
  clear hr hall
  go_enter Try.func40, Try.ntmps40
  go_wp2_with fail
  refine HI.out.mono ?_
  generalize firstP (fun j => !cellOk (P.rd_T36 l ((j : Nat) : Int))) 0 l.length = x at HE
  rintro e w' ⟨rfl, hd⟩
  have HD := Aside0.mk hd
  clear hd
  go_wp2_with fail
  go_returns
  exact ⟨by rw [← HE.out]; rfl, HD.out⟩

set_option maxHeartbeats 1000000 in
set_option maxRecDepth 100000 in
theorem arena_Check.calls (A0 : Option Addr) (c0 : Nat) (l0 : List Cell) (r : Int) (w : World) (hr0 : Kd.C kC w A0 l0.length l0) (hc0 : l0.length ≤ c0) (h : arena_Check.f l0 = some r) :
    Calls Try.prog 19 #[.agg #[.slice A0 l0.length c0]] w fun e w' => e = .returned (.int .i64 r) ∧ Below w.heap.size w w' := by
  have hr := Option.some.inj h
  obtain ⟨w1, hw1⟩ : ∃ w1, w1 = w.alloc (.cells #[.slice A0 l0.length c0] 26) := ⟨_, rfl⟩
  have HB1 := Aside0.mk (show Below w.heap.size w w1 by rw [hw1]; exact (Below.refl _ _).alloc (Nat.le_refl _) _)
  have hblk : w1.heap[w.heap.size]? = some (.cells #[.slice A0 l0.length c0] 26 (0, 0)) := by rw [hw1]; exact heap_alloc_new w _
  have q0 : w1.cell? ⟨w.heap.size, 0, none⟩ = some (.slice A0 l0.length c0) := (blk_cell hblk 0).trans rfl
  have HCW := Aside0.mk (con_wrong A0 c0 l0 w1 (Kd.C_below hr0 HB1.out))
  have HW := Aside0.mk hw1
  unfold arenaOk at hr
  generalize l0.all cellOk = al at *
  clear hblk hw1 hr0 hc0 h
  by_cases hl : l0.length = 96
  · have hlz : ((l0.length : Int) != 96) = false := by rw [hl]; rfl
    rw [decide_eq_true hl, Bool.true_and] at hr
    have HL := Aside0.mk hl
    have HR := Aside0.mk hr
    clear hl hr
    cases al with
    | true =>
      go_enter Try.func19, Try.ntmps19
      go_upto_region 1 with (fail)
      rw [← HW.out]
      go_wp2_with ((go_at_call 40; refine HCW.out.mono ?_; rintro e w2 ⟨rfl, hd⟩; have HB := Aside0.mk (below_step HB1.out hd); clear hd))
      go_returns
      exact ⟨by rw [← HR.out]; rfl, HB.out⟩
    | false =>
      go_enter Try.func19, Try.ntmps19
      go_upto_region 1 with (fail)
      rw [← HW.out]
      go_wp2_with ((go_at_call 40; refine HCW.out.mono ?_; rintro e w2 ⟨rfl, hd⟩; have HB := Aside0.mk (below_step HB1.out hd); clear hd))
      go_returns
      exact ⟨by rw [← HR.out]; rfl, HB.out⟩
  · have hlz : ((l0.length : Int) != 96) = true := by rw [bne_iff_ne]; omega
    rw [decide_eq_false hl, Bool.false_and] at hr
    have HR := Aside0.mk hr
    clear hl hr
    go_enter Try.func19, Try.ntmps19
    go_upto_region 1 with (fail)
    rw [← HW.out]
    go_wp2_with fail
    go_returns
    exact ⟨by rw [← HR.out]; rfl, HB1.out⟩

end Go.Proofs.Ytoblkjdiahoplaa.G
