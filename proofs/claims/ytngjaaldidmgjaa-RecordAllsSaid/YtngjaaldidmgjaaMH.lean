/- Plain: what the reader reads and what the writer lays lead back to one another; records. Plain: records and their bytes lead back to one another. Plain: records' bytes and what is parsed lead back to one another. quiverlaw24.wakes answers true. Words for the walks of quiverlaw24: bytes that are the same, a cut's beginning. quiverlaw24.RecordParsed answers true. -/
import Derived.Test.YtngjaaldidmgjaaMG
import Derived.Test.YtngjaaldidmgjaaMC
import Derived.Lib.Bytes
namespace Go.Proofs.Ytngjaaldidmgjaa.G

section
open Go.Shelf Go.RowKit Go.Proofs.YtngjaaldidmgjaaW.PrintWords Go.Proofs.YtngjaaldidmgjaaW.PrintLast Go.Proofs.YtngjaaldidmgjaaW.PrintMore
set_option linter.unusedVariables false
set_option linter.unusedSimpArgs false

def isB (x : Int) : Prop := 0 ≤ x ∧ x ≤ 255
/-- The reader is well and has this left. -/
def At (bs : List Int) (t : RS) (l : List Int) : Prop := t.ok = true ∧ bs.drop t.p = l
theorem ok_iff (t : RS) : t.ok = true ↔ t.b = false ∧ t.s = false := by
  unfold RS.ok
  cases t.b <;> cases t.s <;> simp
theorem At.bytes {bs : List Int} {t : RS} {l : List Int} (hby : ∀ x ∈ bs, isB x) (h : At bs t l) : ∀ x ∈ l, isB x := fun x hx => hby x (List.mem_of_mem_drop (h.2 ▸ hx))
theorem checkV_iff (v : List Int) : checkV v = 0 ↔ right v = true := by
  unfold checkV
  cases right v with
  | true => exact ⟨fun _ => rfl, fun _ => rfl⟩
  | false => exact ⟨fun h => by simp at h, fun h => by cases h⟩
theorem takeVR_is (bs : List Int) : takeVR bs = tvg bs 0 right := tvg_is bs 0 (Nat.zero_le _) right checkV checkV_iff
end

section
open Go.Shelf Go.RowKit Go.Proofs.YtngjaaldidmgjaaW.PrintWords Go.Proofs.YtngjaaldidmgjaaW.PrintLast Go.Proofs.YtngjaaldidmgjaaW.PrintMore
set_option linter.unusedVariables false
set_option linter.unusedSimpArgs false

theorem recBs_byte (r : Rc) : ∀ x ∈ recBs r, isB x := by
  intro x hx
  have h8 : ∀ y : Int, ∀ x ∈ putBytes 8 y, isB x := fun y x hx => putBytes_range 8 y x hx
  have hv : ∀ v : List Int, ∀ x ∈ vecB v, isB x := fun v x hx => by
    rcases List.mem_cons.1 hx with rfl | hx
    · unfold isB; omega
    · obtain ⟨l, hl, hx⟩ := List.mem_flatten.1 hx
      obtain ⟨y, _, rfl⟩ := List.mem_map.1 hl
      exact putBytes_range 4 _ x hx
  have h1 : ∀ y : Int, isB (y % 256) := fun y => by unfold isB; omega
  unfold recBs recB bodyB at hx
  rcases List.mem_cons.1 hx with rfl | hx
  · exact h1 _
  · split at hx
    · rw [List.mem_append, List.mem_append] at hx
      rcases hx with (hx | hx) | hx
      · exact h8 _ x hx
      · rw [List.mem_singleton] at hx; subst hx; exact h1 _
      · obtain ⟨l, hl, hx⟩ := List.mem_flatten.1 hx
        obtain ⟨y, _, rfl⟩ := List.mem_map.1 hl
        unfold wrB at hx
        rw [List.mem_append, List.mem_append, List.mem_singleton] at hx
        rcases hx with (rfl | hx) | hx
        · exact h1 _
        · exact h8 _ x hx
        · split at hx
          · rw [List.mem_singleton] at hx; subst hx; unfold isB; omega
          · rw [List.mem_append, List.mem_singleton] at hx
            rcases hx with rfl | hx
            · unfold isB; omega
            · exact hv _ x hx
    · split at hx
      · rcases List.mem_cons.1 hx with rfl | hx
        · exact h1 _
        · rw [List.mem_singleton] at hx; subst hx; exact h1 _
      · split at hx
        · rw [List.mem_singleton] at hx; subst hx; exact h1 _
        · split at hx
          · rw [List.mem_append] at hx
            rcases hx with hx | hx
            · rcases List.mem_cons.1 hx with rfl | hx
              · exact h1 _
              · rw [List.mem_singleton] at hx; subst hx; exact h1 _
            · obtain ⟨l, hl, hx⟩ := List.mem_flatten.1 hx
              obtain ⟨y, _, rfl⟩ := List.mem_map.1 hl
              exact hv _ x hx
          · exact h8 _ x hx
end

section
open Go.Shelf Go.RowKit Go.Proofs.YtngjaaldidmgjaaW.PrintWords Go.Proofs.YtngjaaldidmgjaaW.PrintLast Go.Proofs.YtngjaaldidmgjaaW.PrintMore
set_option linter.unusedVariables false
set_option linter.unusedSimpArgs false

theorem allB_byte (l : List Rc) : ∀ x ∈ allB l, isB x := by
  intro x hx
  obtain ⟨m, hm, hx⟩ := List.mem_flatten.1 hx
  obtain ⟨r, _, rfl⟩ := List.mem_map.1 hm
  unfold lenB at hx
  rw [List.mem_append] at hx
  rcases hx with hx | hx
  · exact putBytes_range 2 _ x hx
  · exact recBs_byte r x hx
end

section
open Go.Shelf Go.RowKit Go.Proofs.YtngjaaldidmgjaaW.PrintWords Go.Proofs.YtngjaaldidmgjaaW.PrintLast Go.Proofs.YtngjaaldidmgjaaW.PrintMore
set_option linter.unusedVariables false
set_option linter.unusedSimpArgs false

theorem dec213 : decOk [2, 1, 3] = true ∧ (sDec [2, 1, 3]).rec_ = ⟨2, 0, 0, 1, 3, [], []⟩ := ⟨by decide, rfl⟩
theorem dec215 : decOk [2, 1, 5] = false := by decide
theorem enc258 : recB 5 0 258 0 0 [] [] = [5, 0, 0, 0, 0, 0, 0, 1, 2] := by decide

set_option maxHeartbeats 4000000 in
set_option maxRecDepth 100000 in
theorem wakes24 (w : World) : Calls Try.prog 14 #[] w fun e w' => e = .returned (.bool true) ∧ Below w.heap.size w w' := by
  have HE := Aside0.mk (encYes 5 0 258 0 0 [] [] none 0 none 0 w (Kd.C_nil _ _) (Nat.le_refl _) (Kd.C_nil _ _) (by decide))
  rw [enc258] at HE
  simp only [List.length_nil] at HE
  have HD := Aside0.mk (fun (W : World) => decGo (some ⟨W.heap.size, 0, none⟩) 3 [2, 1, 3] (W.alloc (.cells #[.int .u8 2, .int .u8 1, .int .u8 3] 5)) (C_lit .u8 W [2, 1, 3] 5 (by decide)) (Nat.le_refl _) (by decide) (by decide))
  have HF := Aside0.mk (fun (W : World) => decGo (some ⟨W.heap.size, 0, none⟩) 3 [2, 1, 5] (W.alloc (.cells #[.int .u8 2, .int .u8 1, .int .u8 5] 5)) (C_lit .u8 W [2, 1, 5] 5 (by decide)) (Nat.le_refl _) (by decide) (by decide))
  rw [dec213.1] at HD
  rw [dec215] at HF
  have hr := dec213.2
  unfold DR.rec_ at hr
  generalize sDec [2, 1, 3] = d at *
  obtain ⟨a0, a1, a2, a3, a4, l5, l6, t⟩ := d
  simp only [P.S28.mk.injEq] at hr
  obtain ⟨rfl, rfl, rfl, rfl, rfl, rfl, rfl⟩ := hr
  generalize sDec [2, 1, 5] = d5 at *
  simp only [List.length_cons, List.length_nil] at HD HF
  go_enter Try.func14, Try.ntmps14
  go_wp2_with (go_at_call 51; refine HE.out.mono ?_; rintro e w1 ⟨v1, rfl, ho, hb⟩; obtain ⟨A1, c1, hv1, hc1, hC1⟩ := Kd.R_reads ho; subst hv1; have HB1 := Aside0.mk hb; obtain ⟨ad, hA, hcell⟩ := Kd.at_int hC1 8 (by decide) (by decide); subst hA; have HC1 := Aside0.mk hcell; clear ho hb hC1 hcell)
  refine (HD.out _).mono ?_
  rintro e w2 ⟨hyes, _, hb⟩
  obtain ⟨A5, c5, A6, c6, rfl, _, _⟩ := hyes trivial
  have HB2 := Aside0.mk ((below_alloc (Below.refl _ w1) (.cells #[.int .u8 2, .int .u8 1, .int .u8 3] 5)).trans (Below.less hb (by simp)))
  clear hyes hb
  obtain ⟨wb, hwb⟩ : ∃ wb, wb = w2.alloc (.cells #[.int .i64 2, .int .u64 0, .int .u64 0, .int .i64 1, .int .i64 3, .slice A5 0 c5, .slice A6 0 c6] 28) := ⟨_, rfl⟩
  have HX := Aside0.mk (show wb.heap[w2.heap.size]? = some (.cells #[.int .i64 2, .int .u64 0, .int .u64 0, .int .i64 1, .int .i64 3, .slice A5 0 c5, .slice A6 0 c6] 28 (0, 0)) by rw [hwb]; exact heap_alloc_new _ _)
  have HBb := Aside0.mk (show Below w1.heap.size w1 wb by rw [hwb]; exact below_alloc HB2.out _)
  have HW := Aside0.mk hwb
  clear hwb HB2
  go_upto_region 3 with (fail)
  rw [show w2.alloc (.cells #[.int .i64 2, .int .u64 0, .int .u64 0, .int .i64 1, .int .i64 3, .slice A5 0 c5, .slice A6 0 c6] 28) = wb from HW.out.symm]
  clear HW
  go_wp2_with fail
  refine (HF.out _).mono ?_
  rintro e w4 ⟨_, hno, hb⟩
  obtain rfl := hno trivial
  have hb4 : Below wb.heap.size wb w4 := (below_alloc (Below.refl _ wb) (.cells #[.int .u8 2, .int .u8 1, .int .u8 5] 5)).trans (Below.less hb (by simp))
  clear hno hb
  obtain ⟨wx, hwx⟩ : ∃ wx, wx = w4.alloc (.cells #[.int .i64 0, .int .u64 0, .int .u64 0, .int .i64 0, .int .i64 0, .slice none 0 0, .slice none 0 0] 28) := ⟨_, rfl⟩
  have hb5 : Below wb.heap.size wb wx := by rw [hwx]; exact below_alloc hb4 _
  have HW := Aside0.mk hwx
  clear hb4 hwx
  go_upto_region 4 with (fail)
  rw [show w4.alloc (.cells #[.int .i64 0, .int .u64 0, .int .u64 0, .int .i64 0, .int .i64 0, .slice none 0 0, .slice none 0 0] 28) = wx from HW.out.symm]
  clear HW
  have hX4 := blk_below HX.out hb5
  have hB4 := below_step HBb.out hb5
  have q8 : wx.cell? ⟨ad.block, ad.off + 8, none⟩ = some (.int .u8 2) := (hB4.cell (World.block_lt_of_cell? w1 _ HC1.out)).trans HC1.out
  have x3 : wx.cell? ⟨w2.heap.size, 3, none⟩ = some (.int .i64 1) := (blk_cell hX4 3).trans rfl
  have x4 : wx.cell? ⟨w2.heap.size, 4, none⟩ = some (.int .i64 3) := (blk_cell hX4 4).trans rfl
  have HB5 := Aside0.mk (show Below w.heap.size w wx from below_step HB1.out hB4)
  clear hb5 hX4 hB4
  go_wp2_with fail
  go_returns
  exact ⟨rfl, HB5.out⟩
end

section
open Go.Shelf Go.RowKit Go.Proofs.YtngjaaldidmgjaaW.PrintWords Go.Proofs.YtngjaaldidmgjaaW.PrintLast Go.Proofs.YtngjaaldidmgjaaW.PrintMore
attribute [local go_sem] max2_int min2_int max_two min_two
set_option linter.unusedVariables false
set_option linter.unusedSimpArgs false

theorem bytes_inj : ∀ (l m : List Int), (∀ x ∈ l, 0 ≤ x ∧ x ≤ 255) → (∀ x ∈ m, 0 ≤ x ∧ x ≤ 255) → Lib.bytesOf l = Lib.bytesOf m → l = m
  | [], [], _, _, _ => rfl
  | [], y :: m, _, _, h => by simp [Lib.bytesOf] at h
  | x :: l, [], _, _, h => by simp [Lib.bytesOf] at h
  | x :: l, y :: m, hl, hm, h => by
    have hx := hl x (by simp)
    have hy := hm y (by simp)
    have h' : x.toNat.toUInt8 :: Lib.bytesOf l = y.toNat.toUInt8 :: Lib.bytesOf m := h
    injection h' with h1 h2
    have := bytes_inj l m (fun z hz => hl z (by simp [hz])) (fun z hz => hm z (by simp [hz])) h2
    have h3 := congrArg UInt8.toNat h1
    rw [UInt8.toNat_ofNat', UInt8.toNat_ofNat'] at h3
    rw [this, show x = y by omega]
theorem equal_is (l m : List Int) (hl : ∀ x ∈ l, 0 ≤ x ∧ x ≤ 255) (hm : ∀ x ∈ m, 0 ≤ x ∧ x ≤ 255) : P.bytes_Equal.f l m = some (decide (l = m)) := by
  unfold P.bytes_Equal.f
  rw [Lib.strOfNums_toList, Lib.strOfNums_toList]
  by_cases h : l = m
  · subst h; simp
  · have : Lib.bytesOf l ≠ Lib.bytesOf m := fun e => h (bytes_inj l m hl hm e)
    simp [h, this]

theorem wf_u8 {x : Int} (h : (Lit.int .u8 x).wf = true) : isB x := by simpa [isB, Lit.wf, IntKind.min, IntKind.max, IntKind.signed, IntKind.bits] using h
/-- A cut's beginning: as many as there are, n0 at most. -/
theorem cut_min (A : Option Addr) (c : Nat) (l : List Int) (n0 : Nat) (hc : l.length ≤ c) :
    ∃ n : Nat, n ≤ l.length ∧ n ≤ n0 ∧ (if (n0 : Int) < (l.length : Int) then (n0 : Int) else (l.length : Int)) = (n : Int) ∧
      (∀ W : World, (Instr.slice 30 (.slice A l.length c) none (some (.int .i64 (n : Int))) none).run Try.prog W = .ok (.slice A (l.take n).length c) W) ∧
      (∀ W, Kd.C (Kd.int .u8) W A l.length l → Kd.C (Kd.int .u8) W A (l.take n).length (l.take n)) ∧ (l.take n).length ≤ c := by
  obtain ⟨i0, hi0, _, hsz0, _⟩ := info_parts info_u8
  have key : ∀ n : Nat, n ≤ l.length → (∀ W : World, (Instr.slice 30 (.slice A l.length c) none (some (.int .i64 (n : Int))) none).run Try.prog W = .ok (.slice A (l.take n).length c) W) ∧
      (∀ W, Kd.C (Kd.int .u8) W A l.length l → Kd.C (Kd.int .u8) W A (l.take n).length (l.take n)) ∧ (l.take n).length ≤ c := fun n hn => by
    obtain ⟨h1, h2, h3⟩ := print_take_of (P := Try.prog) (Value.int .u8) 0 30 5 .i64 Try.underlying30 hi0 hsz0 A c l (n : Int) (by omega) (by omega) hc
    rw [Int.toNat_natCast] at h1 h2 h3
    exact ⟨h1, fun W hC => Kd.C_of_reads (h1 := fun _ => rfl) (h2 W (Kd.reads_of_C hC)), h3⟩
  by_cases h : (n0 : Int) < (l.length : Int)
  · exact ⟨n0, by omega, Nat.le_refl _, by rw [if_pos h], key n0 (by omega)⟩
  · exact ⟨l.length, Nat.le_refl _, by omega, by rw [if_neg h], key _ (Nat.le_refl _)⟩
end

end Go.Proofs.Ytngjaaldidmgjaa.G
