/- Contract of codec.TakeRow. -/
import Derived.Test.YtngjaaldidmgjaaC5
import Derived.Test.YtngjaaldidmgjaaD7
namespace Go.Proofs.Ytngjaaldidmgjaa.G
open Go.Shelf Go.RowKit Go.Proofs.YtngjaaldidmgjaaW.PrintWords Go.Proofs.YtngjaaldidmgjaaW.PrintLast Go.Proofs.YtngjaaldidmgjaaW.PrintMore
set_option linter.unusedVariables false
set_option linter.unusedSimpArgs false

theorem IsRd.scan {w w1 : World} {base : Nat} {ok : Nat → Prop} {r g : Nat} {bs : List Int} {pl : Nat} {sb rb : Bool} (h : IsRd w base ok r g bs pl sb rb) {pl' : Nat} {sb' : Bool} (hf : Fr (· = g) w w1) (hI : IsScan w1 base ok g bs pl' sb') : IsRd w1 base ok r g bs pl' sb' rb := h.fr hf hI
def ckRow (v : List Int) : Int := if right v = true then 0 else 170
def rowId (bs : List Int) : Int := num (scTake bs 0 false 8)
def rowRd (bs : List Int) : List Int × Nat × Bool × Bool := rdVec bs (scPl bs.length 0 false 8) (scBad bs.length 0 false 8) false
theorem ckrow_is (v : List Int) : P.codec_CheckRow.f 0 v = some (ckRow v) := by
  unfold P.codec_CheckRow.f vec_Check.f checkV ckRow
  by_cases h : right v = true
  · rw [if_pos h, if_pos h]; rfl
  · rw [if_neg h, if_neg h]; rfl

set_option maxHeartbeats 2000000 in
set_option maxRecDepth 100000 in
theorem takeRow1 (base : Nat) (ok : Nat → Prop) (r g B : Nat) (bs : List Int) (w : World) (hI : IsRd w base ok r g bs 0 false false) (hb : w.heap[B]? = some (.cells #[.int .u64 0, .slice none 0 0] 42 (0, 0))) (hrB : r ≠ B) (hgB : g ≠ B) (hok : ¬ ok B) :
    Calls Try.prog 73 #[.pointer (some ⟨r, 0, none⟩), .pointer (some ⟨B, 0, none⟩)] w fun e w' => ∃ A' c', e = .returned (.int .i64 (ckRow (rowRd bs).1)) ∧
      IsRd w' base ok r g bs (rowRd bs).2.1 (rowRd bs).2.2.1 (rowRd bs).2.2.2 ∧ w'.heap[B]? = some (.cells #[.int .u64 (rowId bs), .slice A' (rowRd bs).1.length c'] 42 (0, 0)) ∧
      Kd.R (Kd.int .i32) 21 w' w.heap.size (fun _ => True) (.slice A' (rowRd bs).1.length c') (rowRd bs).1 ∧ Fr (fun k => k = g ∨ k = r ∨ k = B) w w' := by
  have HNUM := Aside0.mk (ScNum base ok g bs 0 false 8 w hI.2.2.2)
  rw [show sizeOr 8 = 8 from rfl] at HNUM
  have HV0 := Aside0.mk (fun (W : World) (h : IsRd W base ok r g bs (scPl bs.length 0 false 8) (scBad bs.length 0 false 8) false) => rdVec_go base ok r g bs _ _ false W h)
  unfold rowRd rowId
  have HI := Aside0.mk hI
  have HBK := Aside0.mk hb
  have hBl := blk_lt hb
  have q0 : w.cell? ⟨r, 0, none⟩ = some (.pointer (some ⟨g, 0, none⟩)) := (blk_cell hI.1 0).trans rfl
  clear hI hb
  generalize num (scTake bs 0 false 8) = id at *
  generalize scPl bs.length 0 false 8 = pl8 at *
  generalize scBad bs.length 0 false 8 = sb8 at *
  generalize rdVec bs pl8 sb8 false = res at *
  obtain ⟨xs, pl, sb, rb⟩ := res
  simp only at HV0 ⊢
  go_enter Try.func73, Try.ntmps73
  go_wp2_with fail
  refine HNUM.out.mono ?_
  rintro e w1 ⟨rfl, hs1, hf1⟩
  have HI1 := Aside0.mk (HI.out.fr hf1 hs1)
  have hblk := hf1.blk HBK.out (fun h => by omega)
  have p0 : w1.cell? ⟨B, 0, none⟩ = some (.int .u64 0) := (blk_cell hblk 0).trans rfl
  have fz : w1.frozen? ⟨B, 0, none⟩ = false := blk_frozen hblk 0
  obtain ⟨w2, hw2⟩ : ∃ w2, w2 = w1.setCell ⟨B, 0, none⟩ (.int .u64 id) := ⟨_, rfl⟩
  have HF12 := Aside0.mk (show Fr (· = B) w1 w2 by rw [hw2]; exact (Fr.refl (· = B) w1).setCell (p := ⟨B, 0, none⟩) (.inl rfl) _)
  have HI2 := Aside0.mk (HI1.out.frB HF12.out hrB hok)
  have hblk2 : w2.heap[B]? = some (.cells #[.int .u64 id, .slice none 0 0] 42 (0, 0)) := by rw [hw2]; simpa using blk_set hblk 0 (.int .u64 id)
  have HB2 := Aside0.mk hblk2
  have HFR := Aside0.mk (show Fr (fun k => k = g ∨ k = r ∨ k = B) w w2 from (hf1.mono (S' := fun k => k = g ∨ k = r ∨ k = B) (fun k h => .inl h)).trans (HF12.out.mono (fun k h => .inr (.inr h))))
  have HW2 := Aside0.mk hw2
  clear hblk hblk2 hf1 hs1 hw2 HNUM HI HBK q0 HF12 HI1
  go_upto_region 2 with (fail)
  rw [← HW2.out]
  clear p0 fz HW2
  go_wp2_with fail
  refine (HV0.out w2 HI2.out).mono ?_
  rintro e w3 ⟨v3, rfl, ho3, hI3, hf3⟩
  obtain ⟨A3, c3, rfl, hl3, hC3⟩ := Kd.R_reads ho3
  have hblk := hf3.blk HB2.out (fun h => by rcases h with h | h <;> omega)
  have hsz := HFR.out.size
  have p1 : w3.cell? ⟨B, 1, none⟩ = some (.slice none 0 0) := (blk_cell hblk 1).trans rfl
  have fz : w3.frozen? ⟨B, 1, none⟩ = false := blk_frozen hblk 1
  obtain ⟨w4, hw4⟩ : ∃ w4, w4 = w3.setCell ⟨B, 1, none⟩ (.slice A3 xs.length c3) := ⟨_, rfl⟩
  have HF34 := Aside0.mk (show Fr (· = B) w3 w4 by rw [hw4]; exact (Fr.refl (· = B) w3).setCell (p := ⟨B, 1, none⟩) (.inl rfl) _)
  have HI4 := Aside0.mk (hI3.frB HF34.out hrB hok)
  have hblk4 : w4.heap[B]? = some (.cells #[.int .u64 id, .slice A3 xs.length c3] 42 (0, 0)) := by rw [hw4]; simpa using blk_set hblk 1 (.slice A3 xs.length c3)
  have HB4 := Aside0.mk hblk4
  have HO4 := Aside0.mk (show Kd.R (Kd.int .i32) 21 w4 w.heap.size (fun _ => True) (.slice A3 xs.length c3) xs from Kd.R_lower (Kd.R_mono (Kd.R_kept (Kd.R_bound ho3) HF34.out.kept (fun k hk e => by have := hk.2.1; omega)) (fun _ _ => trivial)) hsz)
  have q0 : w4.cell? ⟨B, 0, none⟩ = some (.int .u64 id) := (blk_cell hblk4 0).trans rfl
  have q1 : w4.cell? ⟨B, 1, none⟩ = some (.slice A3 xs.length c3) := (blk_cell hblk4 1).trans rfl
  have HFR4 := Aside0.mk (show Fr (fun k => k = g ∨ k = r ∨ k = B) w w4 from (HFR.out.trans (hf3.mono (S' := fun k => k = g ∨ k = r ∨ k = B) (fun k h => by rcases h with h | h; exact .inl h; exact .inr (.inl h)))).trans (HF34.out.mono (fun k h => .inr (.inr h))))
  have HCK := Aside0.mk (P.codec_CheckRow.calls id A3 c3 xs (ckRow xs) w4 (Kd.R_reads' HO4.out).2.2 hl3 (ckrow_is xs))
  have HW4 := Aside0.mk hw4
  clear hblk hblk4 hf3 hI3 hC3 hl3 ho3 hw4 HV0 HI2 HB2 HFR HF34
  go_upto_region 3 with (fail)
  rw [← HW4.out]
  clear p1 fz HW4
  go_wp2_with fail
  refine HCK.out.mono ?_
  rintro e w5 ⟨rfl, hd5⟩
  have HI5 := Aside0.mk (HI4.out.below hd5)
  have HB5 := Aside0.mk (blk_below HB4.out hd5)
  have HO5 := Aside0.mk (Kd.R_below HO4.out hd5)
  have HF5 := Aside0.mk (HFR4.out.below hd5)
  clear hd5 q0 q1
  go_wp2_with fail
  go_returns
  exact ⟨A3, c3, rfl, HI5.out, HB5.out, HO5.out, HF5.out⟩

def takeRR (bs : List Int) : Int × List Int × Int × Int :=
  if (takeR (rowRd bs).2.1 (rowRd bs).2.2.1 (rowRd bs).2.2.2 (ckRow (rowRd bs).1)).2 = 0
  then (rowId bs, (rowRd bs).1, (takeR (rowRd bs).2.1 (rowRd bs).2.2.1 (rowRd bs).2.2.2 (ckRow (rowRd bs).1)).1, 0)
  else (0, [], 0, (takeR (rowRd bs).2.1 (rowRd bs).2.2.1 (rowRd bs).2.2.2 (ckRow (rowRd bs).1)).2)
def codec_TakeRow.f (bs : List Int) : Option (Int × List Int × Int × Int) := if bytesOk bs = true ∧ bs.length < 140737488355328 then some (takeRR bs) else none

set_option maxHeartbeats 2000000 in
set_option maxRecDepth 100000 in
theorem codec_TakeRow.calls (A0 : Option Addr) (c0 : Nat) (l0 : List Int) (r1 : Int) (r2 : List Int) (r3 r4 : Int) (w : World) (hr : Kd.C (Kd.int .u8) w A0 l0.length l0) (hc : l0.length ≤ c0) (h : codec_TakeRow.f l0 = some (r1, r2, r3, r4)) :
    Calls Try.prog 30 #[.slice A0 l0.length c0] w fun e w' => ∃ v0_ : Value, e = .returned (.tuple #[.agg #[.int .u64 r1, v0_], .int .i64 r3, .int .i64 r4]) ∧ Kd.R (Kd.int .i32) 21 w' w.heap.size (fun _ => True) v0_ r2 ∧ Below w.heap.size w w' := by
  unfold codec_TakeRow.f at h
  split at h
  case isFalse => cases h
  case isTrue hbl =>
  obtain ⟨hby, hl⟩ := hbl
  rw [bytesOk_iff] at hby
  replace h := Option.some.inj h
  unfold takeRR at h
  obtain ⟨w0, hw0⟩ : ∃ w0, w0 = w.alloc (.cells #[.int .u64 0, .slice none 0 0] 42) := ⟨_, rfl⟩
  obtain ⟨w1, hw1⟩ : ∃ w1, w1 = w0.alloc (.cells #[.int .u64 0, .slice none 0 0] 42) := ⟨_, rfl⟩
  have HB0 := Aside0.mk (show Below w.heap.size w w0 by rw [hw0]; exact (Below.refl _ _).alloc (Nat.le_refl _) _)
  have hs0 : w0.heap.size = w.heap.size + 1 := by rw [hw0]; simp
  have hb1 : Below w.heap.size w w1 := by rw [hw1]; exact below_alloc HB0.out _
  have HB1 := Aside0.mk hb1
  have hs1 : w1.heap.size = w0.heap.size + 1 := by rw [hw1]; simp
  have hblk0 : w1.heap[w.heap.size]? = some (.cells #[.int .u64 0, .slice none 0 0] 42 (0, 0)) := by
    rw [hw1, Below.heap_alloc w0 _ w.heap.size (by omega), hw0]; exact heap_alloc_new w _
  have hblk : w1.heap[w0.heap.size]? = some (.cells #[.int .u64 0, .slice none 0 0] 42 (0, 0)) := by rw [hw1]; exact heap_alloc_new w0 _
  obtain ⟨B, hB⟩ : ∃ B, B = w.heap.size + 1 := ⟨_, rfl⟩
  rw [hs0, ← hB] at hblk
  rw [← hB] at hs0
  have eg : ∀ (xs : Array Value) (W : World), Sem.run Try.prog (callFunc 73 xs) W = .ok (.enter 73 xs) W := enters_of Try.func73 (by kernel_rfl) rfl
  have HT := Aside0.mk (taken_go A0 c0 l0 73 (.pointer (some ⟨B, 0, none⟩)) w1 (ckRow (rowRd l0).1) (rowRd l0).2.1 (rowRd l0).2.2.1 (rowRd l0).2.2.2
    (fun w' => ∃ A' c', w'.heap[B]? = some (.cells #[.int .u64 (rowId l0), .slice A' (rowRd l0).1.length c'] 42 (0, 0)) ∧ w'.heap[w.heap.size]? = some (.cells #[.int .u64 0, .slice none 0 0] 42 (0, 0)) ∧ Kd.R (Kd.int .i32) 21 w' w1.heap.size (fun _ => True) (.slice A' (rowRd l0).1.length c') (rowRd l0).1 ∧ Below w.heap.size w w')
    (Kd.C_below hr HB1.out) hc hl hby eg
    (fun a b ⟨A', c', h1, h0, h2, h3⟩ hab => ⟨A', c', blk_below h1 hab, blk_below h0 hab, Kd.R_below h2 hab, below_step h3 hab⟩)
    (fun w2 r g hb2 hI2 => by
      have hg := hI2.2.2.2.ge
      have hr2 : w1.heap.size ≤ r := by
        apply Classical.byContradiction
        intro hlt
        have h5 := hI2.2.2.2.ok_g
        omega
      refine (takeRow1 _ _ r g B l0 w2 hI2 (blk_below hblk hb2) (by omega) (by omega) (fun h => by have := h.1; omega)).mono ?_
      rintro e w3 ⟨A', c', rfl, hI3, hB3, hO3, hF3⟩
      refine ⟨rfl, hI3, A', c', hB3, ?_, Kd.R_lower hO3 hb2.size, ?_⟩
      · exact hF3.blk (blk_below hblk0 hb2) (fun h => by rcases h with h | h | h <;> omega)
      · exact below_step' HB1.out hb2 hF3 (by intro k hk; rcases hk with h | h | h <;> omega)))
  generalize rowRd l0 = res at *
  generalize rowId l0 = id at *
  obtain ⟨xs, pl, sb, rb⟩ := res
  simp only at HT h
  generalize takeR pl sb rb (ckRow xs) = te at *
  obtain ⟨tn, te⟩ := te
  simp only at HT h
  have H := Aside0.mk h
  have HW1 := Aside0.mk hw1
  have HW0 := Aside0.mk hw0
  have HBB := Aside0.mk hB
  have hs1' : w.heap.size < w1.heap.size := by omega
  have hne : B ≠ w.heap.size := by omega
  have HS1 := Aside0.mk hs1'
  have HNE := Aside0.mk hne
  clear hr hc hby hl h hblk hblk0 hw1 hw0 hs0 hs1 hs1' hB hb1 hne
  go_enter Try.func30, Try.ntmps30
  go_upto_region 2 with (fail)
  rw [← HW0.out, ← HBB.out, ← HW1.out]
  go_wp2_with fail
  refine HT.out.mono ?_
  rintro e w2 ⟨rfl, A', c', hB2, hB0, hO2, hb2⟩
  have h := H.out
  have q0 : w2.cell? ⟨B, 0, none⟩ = some (.int .u64 id) := (blk_cell hB2 0).trans rfl
  have q1 : w2.cell? ⟨B, 1, none⟩ = some (.slice A' xs.length c') := (blk_cell hB2 1).trans rfl
  have p0 : w2.cell? ⟨w.heap.size, 0, none⟩ = some (.int .u64 0) := (blk_cell hB0 0).trans rfl
  have p1 : w2.cell? ⟨w.heap.size, 1, none⟩ = some (.slice none 0 0) := (blk_cell hB0 1).trans rfl
  have f0 : w2.frozen? ⟨w.heap.size, 0, none⟩ = false := blk_frozen hB0 0
  have f1 : w2.frozen? ⟨w.heap.size, 1, none⟩ = false := blk_frozen hB0 1
  have HO2 := Aside0.mk hO2
  have HB2 := Aside0.mk hb2
  have HB0' := Aside0.mk hB0
  clear hB2 hO2 hb2 HT H hB0
  by_cases hz : te = 0
  · rw [if_pos hz] at h
    simp only [Prod.mk.injEq] at h
    obtain ⟨rfl, rfl, rfl, rfl⟩ := h
    subst hz
    go_wp2_with fail
    obtain ⟨w3, hw3⟩ : ∃ w3, w3 = (w2.setCell ⟨w.heap.size, 0, none⟩ (.int .u64 id)).setCell ⟨w.heap.size, 1, none⟩ (.slice A' xs.length c') := ⟨_, rfl⟩
    have hblk3 : w3.heap[w.heap.size]? = some (.cells #[.int .u64 id, .slice A' xs.length c'] 42 (0, 0)) := by
      have h1 := blk_set HB0'.out 0 (.int .u64 id)
      have h2 := blk_set h1 1 (.slice A' xs.length c')
      rw [hw3]; simpa using h2
    have e0 : w3.cell? ⟨w.heap.size, 0, none⟩ = some (.int .u64 id) := (blk_cell hblk3 0).trans rfl
    have e1 : w3.cell? ⟨w.heap.size, 1, none⟩ = some (.slice A' xs.length c') := (blk_cell hblk3 1).trans rfl
    have HF3 := Aside0.mk (show Fr (· = w.heap.size) w2 w3 by rw [hw3]; exact ((Fr.refl (· = w.heap.size) w2).setCell (p := ⟨w.heap.size, 0, none⟩) (.inl rfl) _).setCell (p := ⟨w.heap.size, 1, none⟩) (.inl rfl) _)
    have HO3 := Aside0.mk (show Kd.R (Kd.int .i32) 21 w3 w.heap.size (fun _ => True) (.slice A' xs.length c') xs from Kd.R_lower (Kd.R_mono (Kd.R_kept (Kd.R_bound HO2.out) HF3.out.kept (fun k hk e => by have := hk.2.1; have := HS1.out; omega)) (fun _ _ => trivial)) (Nat.le_of_lt HS1.out))
    rw [← hw3]
    refine bodyPost_ret (by simp [results, Try.results30, go_sem, e0, e1]; try rfl) rfl ?_
    exact ⟨_, rfl, HO3.out, HB2.out.trans (HF3.out.toBelow HB2.out.size (fun k hk => by omega))⟩
  · rw [if_neg hz] at h
    simp only [Prod.mk.injEq] at h
    obtain ⟨rfl, rfl, rfl, rfl⟩ := h
    have e1 : (te != 0) = true := by rw [bne_iff_ne]; exact hz
    clear hz
    go_wp2_with fail
    obtain ⟨w3, hw3⟩ : ∃ w3, w3 = (w2.setCell ⟨w.heap.size, 0, none⟩ (.int .u64 0)).setCell ⟨w.heap.size, 1, none⟩ (.slice none 0 0) := ⟨_, rfl⟩
    have hblk3 : w3.heap[w.heap.size]? = some (.cells #[.int .u64 0, .slice none 0 0] 42 (0, 0)) := by
      have h1 := blk_set HB0'.out 0 (.int .u64 0)
      have h2 := blk_set h1 1 (.slice none 0 0)
      rw [hw3]; simpa using h2
    have e0 : w3.cell? ⟨w.heap.size, 0, none⟩ = some (.int .u64 0) := (blk_cell hblk3 0).trans rfl
    have e1 : w3.cell? ⟨w.heap.size, 1, none⟩ = some (.slice none 0 0) := (blk_cell hblk3 1).trans rfl
    have HF3 := Aside0.mk (show Fr (· = w.heap.size) w2 w3 by rw [hw3]; exact ((Fr.refl (· = w.heap.size) w2).setCell (p := ⟨w.heap.size, 0, none⟩) (.inl rfl) _).setCell (p := ⟨w.heap.size, 1, none⟩) (.inl rfl) _)
    rw [← hw3]
    refine bodyPost_ret (by simp [results, Try.results30, go_sem, e0, e1]; try rfl) rfl ?_
    exact ⟨_, rfl, Kd.R_nil _ _ _ _ _, HB2.out.trans (HF3.out.toBelow HB2.out.size (fun k hk => by omega))⟩

end Go.Proofs.Ytngjaaldidmgjaa.G
