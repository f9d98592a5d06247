/- Contract of codec.TakeVec. -/
import Derived.Test.YtngjaaldidmgjaaC4
namespace Go.Proofs.Ytngjaaldidmgjaa.G
open Go.Shelf Go.RowKit Go.Proofs.YtngjaaldidmgjaaW.PrintWords Go.Proofs.YtngjaaldidmgjaaW.PrintLast Go.Proofs.YtngjaaldidmgjaaW.PrintMore
set_option linter.unusedVariables false
set_option linter.unusedSimpArgs false

/-- Another block is written. -/
theorem IsRd.frB {w w1 : World} {base : Nat} {ok : Nat → Prop} {r g B : Nat} {bs : List Int} {pl : Nat} {sb rb : Bool} (h : IsRd w base ok r g bs pl sb rb) (hf : Fr (· = B) w w1) (hr : r ≠ B) (hB : ¬ ok B) : IsRd w1 base ok r g bs pl sb rb :=
  ⟨(hf.block (blk_lt h.1) hr).trans h.1, h.2.1, h.2.2.1, h.2.2.2.fr hf (fun k hk e => hB (by rw [← e]; exact hk))⟩

set_option maxHeartbeats 2000000 in
set_option maxRecDepth 100000 in
theorem takeVec1 (base : Nat) (ok : Nat → Prop) (r g B : Nat) (bs : List Int) (w : World) (hI : IsRd w base ok r g bs 0 false false) (hb : w.heap[B]? = some (.cells #[.slice none 0 0] 40 (0, 0))) (hrB : r ≠ B) (hgB : g ≠ B) (hok : ¬ ok B) :
    Calls Try.prog 69 #[.pointer (some ⟨r, 0, none⟩), .pointer (some ⟨B, 0, none⟩)] w fun e w' => ∃ A' c', e = .returned (.int .i64 (checkV (rdVec bs 0 false false).1)) ∧
      IsRd w' base ok r g bs (rdVec bs 0 false false).2.1 (rdVec bs 0 false false).2.2.1 (rdVec bs 0 false false).2.2.2 ∧ w'.heap[B]? = some (.cells #[.slice A' (rdVec bs 0 false false).1.length c'] 40 (0, 0)) ∧
      Kd.R (Kd.int .i32) 21 w' w.heap.size (fun _ => True) (.slice A' (rdVec bs 0 false false).1.length c') (rdVec bs 0 false false).1 ∧ Fr (fun k => k = g ∨ k = r ∨ k = B) w w' := by
  have HV := Aside0.mk (rdVec_go base ok r g bs 0 false false w hI)
  have HBK := Aside0.mk hb
  have hBl := blk_lt hb
  clear hI hb
  generalize rdVec bs 0 false false = res at *
  obtain ⟨xs, pl, sb, rb⟩ := res
  simp only at HV ⊢
  go_enter Try.func69, Try.ntmps69
  go_wp2_with fail
  refine HV.out.mono ?_
  rintro e w1 ⟨v1, rfl, ho1, hI1, hf1⟩
  obtain ⟨A1, c1, rfl, hl1, hC1⟩ := Kd.R_reads ho1
  have hblk := hf1.blk HBK.out (fun h => by rcases h with h | h <;> omega)
  have q0 : w1.cell? ⟨B, 0, none⟩ = some (.slice none 0 0) := (blk_cell hblk 0).trans rfl
  have fz : w1.frozen? ⟨B, 0, none⟩ = false := blk_frozen hblk 0
  obtain ⟨w2, hw2⟩ : ∃ w2, w2 = w1.setCell ⟨B, 0, none⟩ (.slice A1 xs.length c1) := ⟨_, rfl⟩
  have HF12 := Aside0.mk (show Fr (· = B) w1 w2 by rw [hw2]; exact (Fr.refl (· = B) w1).setCell (p := ⟨B, 0, none⟩) (.inl rfl) _)
  have HI2 := Aside0.mk (hI1.frB HF12.out hrB hok)
  have hblk2 : w2.heap[B]? = some (.cells #[.slice A1 xs.length c1] 40 (0, 0)) := by rw [hw2]; simpa using blk_set hblk 0 (.slice A1 xs.length c1)
  have HB2 := Aside0.mk hblk2
  have HO2 := Aside0.mk (show Kd.R (Kd.int .i32) 21 w2 w.heap.size (fun _ => True) (.slice A1 xs.length c1) xs from Kd.R_mono (Kd.R_kept (Kd.R_bound ho1) HF12.out.kept (fun k hk e => by have := hk.2.1; omega)) (fun _ _ => trivial))
  have q2 : w2.cell? ⟨B, 0, none⟩ = some (.slice A1 xs.length c1) := (blk_cell hblk2 0).trans rfl
  have HFR := Aside0.mk (show Fr (fun k => k = g ∨ k = r ∨ k = B) w w2 from (hf1.mono (S' := fun k => k = g ∨ k = r ∨ k = B) (fun k h => by rcases h with h | h; exact .inl h; exact .inr (.inl h))).trans (HF12.out.mono (fun k h => .inr (.inr h))))
  have HCK := Aside0.mk (vec_Check.calls A1 c1 xs (checkV xs) w2 (Kd.R_reads' HO2.out).2.2 hl1 rfl)
  have HW2 := Aside0.mk hw2
  clear hblk hblk2 hf1 hI1 hC1 hl1 ho1 hw2 HV
  go_upto_region 2 with (fail)
  rw [← HW2.out]
  clear q0 fz HW2
  go_wp2_with fail
  refine HCK.out.mono ?_
  rintro e w3 ⟨rfl, hd3⟩
  have HI3 := Aside0.mk (HI2.out.below hd3.below)
  have HB3 := Aside0.mk (blk_below HB2.out hd3.below)
  have HO3 := Aside0.mk (Kd.R_below HO2.out hd3.below)
  have HF3 := Aside0.mk (HFR.out.below hd3.below)
  clear hd3 q2
  go_wp2_with fail
  go_returns
  exact ⟨A1, c1, rfl, HI3.out, HB3.out, HO3.out, HF3.out⟩

theorem below_step' {w w1 w2 w3 : World} {S : Nat → Prop} (h1 : Below w.heap.size w w1) (h2 : Below w1.heap.size w1 w2) (h3 : Fr S w2 w3) (hS : ∀ k, S k → w.heap.size ≤ k) : Below w.heap.size w w3 := by
  have h12 := below_step h1 h2
  exact ⟨h3.os.trans h12.os, h3.tape.trans h12.tape, h3.output.trans h12.output, Nat.le_trans h12.size h3.size, fun k hk => (h3.block (Nat.lt_of_lt_of_le hk h12.size) (fun h => by have := hS k h; omega)).trans (h12.block k hk)⟩
def bytesOk (l : List Int) : Bool := l.all fun x => decide (0 ≤ x ∧ x ≤ 255)
theorem bytesOk_iff (l : List Int) : bytesOk l = true ↔ ∀ x ∈ l, 0 ≤ x ∧ x ≤ 255 := by simp [bytesOk]
def takeVR (bs : List Int) : List Int × Int × Int :=
  if (takeR (rdVec bs 0 false false).2.1 (rdVec bs 0 false false).2.2.1 (rdVec bs 0 false false).2.2.2 (checkV (rdVec bs 0 false false).1)).2 = 0
  then ((rdVec bs 0 false false).1, (takeR (rdVec bs 0 false false).2.1 (rdVec bs 0 false false).2.2.1 (rdVec bs 0 false false).2.2.2 (checkV (rdVec bs 0 false false).1)).1, 0)
  else ([], 0, (takeR (rdVec bs 0 false false).2.1 (rdVec bs 0 false false).2.2.1 (rdVec bs 0 false false).2.2.2 (checkV (rdVec bs 0 false false).1)).2)
def codec_TakeVec.f (bs : List Int) : Option (List Int × Int × Int) := if bytesOk bs = true ∧ bs.length < 140737488355328 then some (takeVR bs) else none

set_option maxHeartbeats 2000000 in
set_option maxRecDepth 100000 in
theorem codec_TakeVec.calls (A0 : Option Addr) (c0 : Nat) (l0 : List Int) (r1 : List Int) (r2 r3 : Int) (w : World) (hr : Kd.C (Kd.int .u8) w A0 l0.length l0) (hc : l0.length ≤ c0) (h : codec_TakeVec.f l0 = some (r1, r2, r3)) :
    Calls Try.prog 27 #[.slice A0 l0.length c0] w fun e w' => ∃ v0_ : Value, e = .returned (.tuple #[v0_, .int .i64 r2, .int .i64 r3]) ∧ Kd.R (Kd.int .i32) 21 w' w.heap.size (fun _ => True) v0_ r1 ∧ Below w.heap.size w w' := by
  unfold codec_TakeVec.f at h
  split at h
  case isFalse => cases h
  case isTrue hbl =>
  obtain ⟨hby, hl⟩ := hbl
  rw [bytesOk_iff] at hby
  replace h := Option.some.inj h
  unfold takeVR at h
  obtain ⟨w1, hw1⟩ : ∃ w1, w1 = w.alloc (.cells #[.slice none 0 0] 40) := ⟨_, rfl⟩
  have HB1 := Aside0.mk (show Below w.heap.size w w1 by rw [hw1]; exact (Below.refl _ _).alloc (Nat.le_refl _) _)
  have hs1 : w1.heap.size = w.heap.size + 1 := by rw [hw1]; simp
  have hblk : w1.heap[w.heap.size]? = some (.cells #[.slice none 0 0] 40 (0, 0)) := by rw [hw1]; exact heap_alloc_new w _
  have eg : ∀ (xs : Array Value) (W : World), Sem.run Try.prog (callFunc 69 xs) W = .ok (.enter 69 xs) W := enters_of Try.func69 (by kernel_rfl) rfl
  have HT := Aside0.mk (taken_go A0 c0 l0 69 (.pointer (some ⟨w.heap.size, 0, none⟩)) w1 (checkV (rdVec l0 0 false false).1) (rdVec l0 0 false false).2.1 (rdVec l0 0 false false).2.2.1 (rdVec l0 0 false false).2.2.2
    (fun w' => ∃ A' c', w'.heap[w.heap.size]? = some (.cells #[.slice A' (rdVec l0 0 false false).1.length c'] 40 (0, 0)) ∧ Kd.R (Kd.int .i32) 21 w' w1.heap.size (fun _ => True) (.slice A' (rdVec l0 0 false false).1.length c') (rdVec l0 0 false false).1 ∧ Below w.heap.size w w')
    (Kd.C_below hr HB1.out) hc hl hby eg
    (fun a b ⟨A', c', h1, h2, h3⟩ hab => ⟨A', c', blk_below h1 hab, Kd.R_below h2 hab, below_step h3 hab⟩)
    (fun w2 r g hb2 hI2 => by
      have hg := hI2.2.2.2.ge
      have hr2 : w1.heap.size ≤ r := by
        apply Classical.byContradiction
        intro hlt
        have h5 := hI2.2.2.2.ok_g
        omega
      refine (takeVec1 _ _ r g w.heap.size l0 w2 hI2 (blk_below hblk hb2) (by omega) (by omega) (fun h => by have := h.1; omega)).mono ?_
      rintro e w3 ⟨A', c', rfl, hI3, hB3, hO3, hF3⟩
      refine ⟨rfl, hI3, A', c', hB3, Kd.R_lower hO3 hb2.size, ?_⟩
      exact below_step' HB1.out hb2 hF3 (by intro k hk; rcases hk with h | h | h <;> omega)))
  generalize rdVec l0 0 false false = res at *
  obtain ⟨xs, pl, sb, rb⟩ := res
  simp only at HT h
  generalize takeR pl sb rb (checkV xs) = te at *
  obtain ⟨tn, te⟩ := te
  simp only at HT h
  have H := Aside0.mk h
  have HW1 := Aside0.mk hw1
  have HS1 := Aside0.mk hs1
  clear hr hc hby hl h hblk hw1 hs1
  go_enter Try.func27, Try.ntmps27
  go_upto_region 2 with (fail)
  rw [← HW1.out]
  go_wp2_with fail
  refine HT.out.mono ?_
  rintro e w2 ⟨rfl, A', c', hB2, hO2, hb2⟩
  have h := H.out
  have q0 : w2.cell? ⟨w.heap.size, 0, none⟩ = some (.slice A' xs.length c') := (blk_cell hB2 0).trans rfl
  have HO2 := Aside0.mk (Kd.R_lower hO2 (show w.heap.size ≤ w1.heap.size by rw [HS1.out]; omega))
  have HB2 := Aside0.mk hb2
  clear hB2 hO2 hb2 HT H
  by_cases hz : te = 0
  · rw [if_pos hz] at h
    simp only [Prod.mk.injEq] at h
    obtain ⟨rfl, rfl, rfl⟩ := h
    subst hz
    go_wp2_with fail
    go_returns
    exact ⟨_, rfl, HO2.out, HB2.out⟩
  · rw [if_neg hz] at h
    simp only [Prod.mk.injEq] at h
    obtain ⟨rfl, rfl, rfl⟩ := h
    have e1 : (te != 0) = true := by rw [bne_iff_ne]; exact hz
    clear hz
    go_wp2_with fail
    go_returns
    exact ⟨_, rfl, Kd.R_nil _ _ _ _ _, HB2.out⟩

end Go.Proofs.Ytngjaaldidmgjaa.G
