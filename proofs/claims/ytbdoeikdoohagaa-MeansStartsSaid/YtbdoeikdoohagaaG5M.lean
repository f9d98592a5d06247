/- Contract of vec.Mean: the walk. -/
import Derived.Test.YtbdoeikdoohagaaG5
namespace Go.Proofs.Ytbdoeikdoohagaa.G
open Go.Shelf Go.RowKit Go.Proofs.YtbdoeikdoohagaaW.PrintWords Go.Proofs.YtbdoeikdoohagaaW.PrintLast Go.Proofs.YtbdoeikdoohagaaW.PrintMore
set_option linter.unusedVariables false
set_option linter.unusedSimpArgs false

def arr (S : List Int) : Array Value := (S.map (Value.int .i64)).toArray
theorem arr_get (S : List Int) (j : Nat) (x : Int) (h : S[j]? = some x) : (arr S)[j]? = some (.int .i64 x) := by simp [arr, h]
theorem arr_set (S : List Int) (j : Nat) (x : Int) : (arr S).setIfInBounds j (.int .i64 x) = arr (S.set j x) := by simp [arr, List.map_set]
theorem blk_arr {w : World} {B : Nat} {S : List Int} {T : Nat} (h : w.heap[B]? = some (.cells (arr S) T (0, 0))) (j : Nat) (x : Int) : (w.setCell ⟨B, j, none⟩ (.int .i64 x)).heap[B]? = some (.cells (arr (S.set j x)) T (0, 0)) := by
  rw [← arr_set]
  simpa using blk_set h j (.int .i64 x)

def outK (l : List (List Int)) (k : Nat) : List Int := (List.range k).map fun i => sumAt l i / (l.length : Int)
theorem outK_snoc (l : List (List Int)) (k : Nat) : outK l (k + 1) = outK l k ++ [sumAt l k / (l.length : Int)] := by simp [outK, List.range_succ]
theorem meanV_is (l : List (List Int)) : meanV l = outK l (l.getD 0 []).length := rfl

set_option maxHeartbeats 2000000 in
set_option maxRecDepth 100000 in
theorem mean_go (A : Option Addr) (c : Nat) (l : List (List Int)) (w : World) (hr : Kd.C kR w A l.length l) (hlc : l.length ≤ c) (h0 : 0 < l.length) (hl : l.length ≤ 1000000) (hall : l.all right = true) (hsame : sameLens l = true) :
    Calls Try.prog 20 #[.slice A l.length c] w fun e w' => ∃ v0_ : Value, e = .returned (.tuple #[v0_, .int .i64 0]) ∧ Kd.R (Kd.int .i32) 21 w' w.heap.size (fun _ => True) v0_ (meanV l) ∧ Below w.heap.size w w' := by
  have HR := Aside0.mk hr
  have HA := Aside0.mk hall
  have HS := Aside0.mk hsame
  have e0 : ((l.length : Int) == 0) = false := by rw [beq_eq_false_iff_ne]; omega
  have hz : allErr l = 0 := (allErr_zero l).2 ⟨hall, hsame⟩
  have HV := Aside0.mk (vec_all.calls A c l 0 w hr hlc (by unfold vec_all.f; rw [hz]))
  have HM := Aside0.mk (meanV_is l)
  clear hr hall hsame hz
  go_enter Try.func20, Try.ntmps20
  go_wp2_with fail
  refine HV.out.mono ?_
  rintro e w1 ⟨rfl, hb1⟩
  have HB1 := Aside0.mk hb1
  have HN := Aside0.mk (heap_alloc_new w1 (.cells (arr (S4 [])) 74))
  have HB2 := Aside0.mk (hb1.alloc hb1.size (.cells (arr (S4 [])) 74))
  clear hb1
  go_wp2_with fail
  go_loopg [22] l.length (fun gg s22 wr => ∃ kk : Nat, kk ≤ l.length ∧ l.length - kk ≤ gg ∧ s22 = .int .i64 kk ∧ Aside0 (wr.heap[w1.heap.size]? = some (.cells (arr (S4 (l.take kk))) 74 (0, 0))) ∧ Aside0 (Below w.heap.size w wr))
  case atStart => exact ⟨0, Nat.zero_le _, by omega, rfl, HN, HB2⟩
  case round =>
    obtain ⟨kk, hkk, hg, rfl, HW, HB⟩ := hrel
    by_cases hlt : kk < l.length
    · have hltz : (kk : Int) < (l.length : Int) := by omega
      obtain ⟨ad, A', c', hA, hcell, hlc', hC⟩ := C_row HR.out kk hlt
      subst hA
      replace hcell := (HB.out.cell (World.block_lt_of_cell? w _ hcell)).trans hcell
      have HTS := Aside0.mk (take_snocR l kk hlt)
      have hrt := right_at l HA.out kk hlt
      have hl4 := (right_len _ hrt).2
      have HCo := Aside0.mk (right_comp _ hrt)
      have HBd := Aside0.mk (fun i => sumAt_bound i (l.take kk) (all_take l kk HA.out))
      have hml := Kd.C_max hC
      have HCC := Aside0.mk hC
      clear hC hlc' hrt
      generalize hv : l.getD kk [] = v at *
      clear hv
      have HW2 := Aside0.mk (show wr.heap[w1.heap.size]? = some (.cells (arr (addTo (l.take kk) v 0)) 74 (0, 0)) by rw [addTo_zero]; exact HW.out)
      obtain ⟨wo, rfl⟩ : ∃ wo : World, wo = wr := ⟨_, rfl⟩
      go_wp2_with fail
      go_loopg [28] v.length (fun gg s28 wr => ∃ jj : Nat, jj ≤ v.length ∧ v.length - jj ≤ gg ∧ s28 = .int .i64 jj ∧ Aside0 (wr.heap[w1.heap.size]? = some (.cells (arr (addTo (l.take kk) v jj)) 74 (0, 0))) ∧ Aside0 (Below w.heap.size w wr))
      case atStart => exact ⟨0, Nat.zero_le _, by omega, rfl, HW2, HB⟩
      case round =>
        obtain ⟨jj, hjj, hgj, rfl, HWi, HBi⟩ := hrel
        by_cases hjt : jj < v.length
        · have hjz : (jj : Int) < (v.length : Int) := by omega
          have hj4 : (jj : Int) < 4 := by omega
          obtain ⟨ad', hA', hc⟩ := C_byte' HCC.out jj hjt
          subst hA'
          replace hc := (HBi.out.cell (World.block_lt_of_cell? w _ hc)).trans hc
          have q1 : wr.cell? ⟨w1.heap.size, jj, none⟩ = some (.int .i64 (sumAt (l.take kk) jj)) := (blk_cell HWi.out jj).trans (arr_get _ _ _ (addTo_get _ _ _ (by omega)))
          have f1 : wr.frozen? ⟨w1.heap.size, jj, none⟩ = false := blk_frozen HWi.out jj
          have HST := Aside0.mk (addTo_step (l.take kk) v jj (by omega))
          obtain ⟨x1, x2⟩ := HCo.out jj
          obtain ⟨s1, s2⟩ := HBd.out jj
          rw [List.length_take, Nat.min_eq_left (by omega)] at s1 s2
          generalize v.getD jj 0 = x at *
          generalize sumAt (l.take kk) jj = s at *
          go_wp2_with fail
          have HW3 := Aside0.mk (by rw [← HST.out]; exact blk_arr HWi.out jj (s + x) : (wr.setCell ⟨w1.heap.size, jj, none⟩ (.int .i64 (s + x))).heap[w1.heap.size]? = some (.cells (arr (addTo (l.take kk) v (jj + 1))) 74 (0, 0)))
          have HB3 := Aside0.mk (HBi.out.setCell (p := ⟨w1.heap.size, jj, none⟩) HB1.out.size (.int .i64 (s + x)))
          go_roundg (v.length - (jj + 1))
          case measure => omega
          case rel => exact ⟨jj + 1, hjt, by omega, by go_num, HW3, HB3⟩
        · obtain rfl : jj = v.length := by omega
          have HW3 := Aside0.mk (by rw [HTS.out, ← addTo_full (l.take kk) v hl4]; exact HWi.out : wr.heap[w1.heap.size]? = some (.cells (arr (S4 (l.take (kk + 1)))) 74 (0, 0)))
          go_wp2_with fail
          go_roundg (l.length - (kk + 1))
          case measure => omega
          case rel => exact ⟨kk + 1, hlt, by omega, by go_num, HW3, HBi⟩
    · obtain rfl : kk = l.length := by omega
      have HWl := Aside0.mk (by rw [← List.take_length (l := l)]; simpa using HW.out : wr.heap[w1.heap.size]? = some (.cells (arr (S4 l)) 74 (0, 0)))
      obtain ⟨ad, A0, c0, hA, hcell, hlc0, hC0⟩ := C_row HR.out 0 h0
      subst hA
      replace hcell := (HB.out.cell (World.block_lt_of_cell? w _ hcell)).trans hcell
      rw [add0] at hcell
      have hl4 := (right_len _ (right_at l HA.out 0 h0)).2
      have hml := Kd.C_max hC0
      clear hC0 hlc0
      have h0z : (0 : Int) < (l.length : Int) := by omega
      generalize (l.getD 0 []).length = d at *
      obtain ⟨wo, rfl⟩ : ∃ wo : World, wo = wr := ⟨_, rfl⟩
      go_wp2_with fail
      go_loopg [10, 46] d (fun gg v10 s46 wr => ∃ kk : Nat, kk ≤ d ∧ d - kk ≤ gg ∧ s46 = .int .i64 kk ∧ Aside0 (Kd.R (Kd.int .i32) 21 wr w.heap.size (fun _ => True) v10 (outK l kk)) ∧ Aside0 (wr.heap[w1.heap.size]? = some (.cells (arr (S4 l)) 74 (0, 0))) ∧ Aside0 (Below w.heap.size w wr))
      case atStart => exact ⟨0, Nat.zero_le _, by omega, rfl, ⟨by exact Kd.R_nil _ _ _ _ _⟩, HWl, HB⟩
      case round =>
        obtain ⟨jj, hjj, hgj, rfl, HOi, HWi, HBi⟩ := hrel
        by_cases hjt : jj < d
        · have hjz : (jj : Int) < (d : Int) := by omega
          have hj4 : (jj : Int) < 4 := by omega
          have q1 : wr.cell? ⟨w1.heap.size, jj, none⟩ = some (.int .i64 (sumAt l jj)) := (blk_cell HWi.out jj).trans (arr_get _ _ _ (S4_get _ _ (by omega)))
          have hsb := sumAt_bound jj l HA.out
          obtain ⟨hd1, hd2, hd3⟩ := down_is (sumAt l jj) l.length (by omega) (by omega) hsb.1 hsb.2
          have HSN := Aside0.mk (outK_snoc l jj)
          have HDN := Aside0.mk hd1
          clear hd1
          generalize sumAt l jj / (l.length : Int) = q at *
          have e32 : wrap32 q = q := by unfold wrap32; omega
          have hlen : (outK l jj).length = jj := by simp [outK]
          have HLN := Aside0.mk hlen
          clear hlen
          go_wp2_with fail
          refine (P.vec_down.calls _ _ q _ HDN.out).mono ?_
          rintro e w' ⟨rfl, ⟨⟨nd, rfl⟩⟩⟩
          have HNE := Aside0.mk (Kd.R_ne HOi.out HWi.out (by decide))
          go_wp2_with ((with_reducible refine gate_builtin (b := .append) (xs := #[.tmp 49, .tmp 57]) rfl ?_); at_builtin; refine Kd.R_append (Kd.int .i32) (w0 := w) w.heap.size rfl (.tmp 49) (.tmp 57) 25 21 (.int .i32 0) 4 rfl Try.underlying25 info_i32 rfl (by decide) (by omega) u10 (outK l jj) q [.int .i32 q] (fun _ => True) (fun _ => False) rfl rfl ?aP (fun _ hk => hk.elim) ?aF ?aO ?aB ?aS ?aL ?_; (case aP => exact rfl); (case aF => exact (fun _ _ => trivial)); (case aO => exact Kd.R_drewN HOi.out nd); (case aB => exact pw_below_drewN HBi.out nd); (case aS => exact (below_size (pw_below_drewN HBi.out nd))); (case aL => rw [HLN.out]; omega); intro v1 w11 ho hb hg hat; rw [← HSN.out] at ho; have HO2 := Aside0.mk ho; have HB2 := Aside0.mk hb; have HW2 := Aside0.mk ((hg.block w1.heap.size (blk_lt (blk_drewN HWi.out nd)) HNE.out).trans (blk_drewN HWi.out nd)); clear ho hb hg hat)
          go_roundg (d - (jj + 1))
          case measure => omega
          case rel => exact ⟨jj + 1, hjt, by omega, by go_num, HO2, HW2, HB2⟩
        · obtain rfl : jj = d := by omega
          go_wp2_with fail
          go_returns
          exact ⟨_, rfl, by rw [HM.out]; exact HOi.out, HBi.out⟩

set_option maxHeartbeats 1000000 in
set_option maxRecDepth 100000 in
theorem vec_Mean.calls (A : Option Addr) (c : Nat) (l : List (List Int)) (r1 : List Int) (r2 : Int) (w : World) (hr : Kd.C (Kd.slice 21 (Kd.int .i32)) w A l.length l) (hc : l.length ≤ c) (h : vec_Mean.f l = some (r1, r2)) :
    Calls Try.prog 20 #[.slice A l.length c] w fun e w' => ∃ v0_ : Value, e = .returned (.tuple #[v0_, .int .i64 r2]) ∧ Kd.R (Kd.int .i32) 21 w' w.heap.size (fun _ => True) v0_ r1 ∧ Below w.heap.size w w' := by
  unfold vec_Mean.f at h
  split at h
  case isFalse => cases h
  case isTrue hbig =>
  have h := Option.some.inj h
  unfold meanR at h
  by_cases h0 : l.length = 0
  · rw [if_pos h0] at h
    obtain ⟨rfl, rfl⟩ := Prod.mk.inj h
    obtain rfl : l = [] := List.length_eq_zero_iff.1 h0
    clear h h0 hr hbig
    go_enter Try.func20, Try.ntmps20
    go_wp2_with fail
    go_returns
    exact ⟨_, rfl, Kd.R_nil _ _ _ _ _, Below.refl _ _⟩
  rw [if_neg h0] at h
  by_cases hz : allErr l = 0
  · rw [if_pos hz] at h
    obtain ⟨rfl, rfl⟩ := Prod.mk.inj h
    have hh := (allErr_zero l).1 hz
    exact mean_go A c l w hr hc (by omega) hbig hh.1 hh.2
  · rw [if_neg hz] at h
    obtain ⟨rfl, rfl⟩ := Prod.mk.inj h
    have HV := Aside0.mk (vec_all.calls A c l _ w hr hc rfl)
    have e0 : ((l.length : Int) == 0) = false := by rw [beq_eq_false_iff_ne]; omega
    have e1 : (allErr l != 0) = true := by rw [bne_iff_ne]; exact hz
    clear hr h hz h0
    generalize allErr l = z at *
    go_enter Try.func20, Try.ntmps20
    go_wp2_with fail
    refine HV.out.mono ?_
    rintro e w1 ⟨rfl, hb1⟩
    have HB1 := Aside0.mk hb1
    clear hb1
    go_wp2_with fail
    go_returns
    exact ⟨_, rfl, Kd.R_nil _ _ _ _ _, HB1.out⟩

end Go.Proofs.Ytbdoeikdoohagaa.G
