/- quiverlaw24.RecordJoined answers true. -/
import Derived.Test.YtngjaaldidmgjaaMI
namespace Go.Proofs.Ytngjaaldidmgjaa.G
open Go.Shelf Go.RowKit Go.Proofs.YtngjaaldidmgjaaW.PrintWords Go.Proofs.YtngjaaldidmgjaaW.PrintLast Go.Proofs.YtngjaaldidmgjaaW.PrintMore
set_option linter.unusedVariables false
set_option linter.unusedSimpArgs false

def jn (n : Nat) (l : List Rc) : List Rc := (l.take n).map fewR
theorem jn_len (n : Nat) (l : List Rc) : (jn n l).length ≤ n := by unfold jn; rw [List.length_map, List.length_take]; omega
theorem jn_more (n : Nat) (l : List Rc) (k : Nat) (h : k < l.length) (h8 : k < n) : jn n (l.take (k + 1)) = jn n (l.take k) ++ [fewR l[k]] := by
  unfold jn
  rw [List.take_take, List.take_take, Nat.min_eq_right (by omega), Nat.min_eq_right (by omega), List.take_succ_eq_append_getElem h, List.map_append]
  rfl
theorem jn_same (n : Nat) (l : List Rc) (k : Nat) (h8 : n ≤ k) : jn n (l.take (k + 1)) = jn n (l.take k) := by
  unfold jn
  rw [List.take_take, List.take_take, Nat.min_eq_left (by omega), Nat.min_eq_left (by omega)]
theorem RowsS.fk {w : World} {r : Rc} {A5 : Option Addr} {c5 : Nat} {A6 : Option Addr} {c6 b : Nat} (h : RowsS w r A5 c5 A6 c6 b) : Kd.FK kRc w (fun k => b ≤ k) r (rcL r A5 c5 A6 c6).toList :=
  P.k28_mkF _ _ r (Kd.N_reads' (Kd.S_N h.1)).2.1 (Kd.F_mono (Kd.S_F (Kd.S_bound h.1)) (fun k hk => hk.2.1)) (Kd.N_reads' (Kd.S_N h.2)).2.1 (Kd.F_mono (Kd.S_F (Kd.S_bound h.2)) (fun k hk => hk.2.1))
/-- A row's record. -/
theorem rc_at {w : World} {A : Option Addr} {l : List Rc} (h : Kd.C kRc w A l.length l) (k : Nat) (hk : k < l.length) : ∃ ad A5 c5 A6 c6, A = some ad ∧ w.cell? (ad.add (k * 7)) = some (.int .i64 l[k].f0) ∧ w.cell? ⟨(ad.add (k * 7)).block, (ad.add (k * 7)).off + 1, none⟩ = some (.int .u64 l[k].f1) ∧ w.cell? ⟨(ad.add (k * 7)).block, (ad.add (k * 7)).off + 2, none⟩ = some (.int .u64 l[k].f2) ∧ w.cell? ⟨(ad.add (k * 7)).block, (ad.add (k * 7)).off + 3, none⟩ = some (.int .i64 l[k].f3) ∧
    w.cell? ⟨(ad.add (k * 7)).block, (ad.add (k * 7)).off + 4, none⟩ = some (.int .i64 l[k].f4) ∧ w.cell? ⟨(ad.add (k * 7)).block, (ad.add (k * 7)).off + 5, none⟩ = some (.slice A5 l[k].f5.length c5) ∧ w.cell? ⟨(ad.add (k * 7)).block, (ad.add (k * 7)).off + 6, none⟩ = some (.slice A6 l[k].f6.length c6) ∧ (l[k].f5.length ≤ c5 ∧ Kd.C kW w A5 l[k].f5.length l[k].f5) ∧ (l[k].f6.length ≤ c6 ∧ Kd.C kV w A6 l[k].f6.length l[k].f6) := by
  obtain ⟨ad, A5, c5, A6, c6, hA, p0, p1, p2, p3, p4, p5, p6, hc5, h5, hc6, h6⟩ := P.at_T28 h (k : Int) (by omega) (by omega)
  have hxe : P.rd_T28 l (k : Int) = l[k] := by unfold P.rd_T28; rw [Int.toNat_natCast]; exact getD_of_lt l k _ hk
  rw [hxe] at p0 p1 p2 p3 p4 p5 p6 hc5 h5 hc6 h6
  rw [Int.toNat_natCast] at p0 p1 p2 p3 p4 p5 p6
  exact ⟨ad, A5, c5, A6, c6, hA, p0, p1, p2, p3, p4, p5, p6, ⟨hc5, h5⟩, hc6, h6⟩

set_option maxHeartbeats 8000000 in
set_option maxRecDepth 100000 in
theorem recordJoined.walk (A0 : Option Addr) (c0 : Nat) (l0 : List Rc) (A1 : Option Addr) (c1 : Nat) (l1 : List Rc) (W : World) (hl0 : l0.length ≤ c0) (hC0 : Kd.C kRc W A0 l0.length l0) (hw0 : ∀ x ∈ l0, wfRc x) (hl1 : l1.length ≤ c1) (hC1 : Kd.C kRc W A1 l1.length l1) (hw1 : ∀ x ∈ l1, wfRc x) :
    Calls Try.prog 3 #[.slice A0 l0.length c0, .slice A1 l1.length c1] W fun e w' => e = .returned (.bool true) ∧ Below W.heap.size W w' := by
  have HWK := Aside0.mk (wakes24 W)
  have HC0 := Aside0.mk hC0
  have HC1 := Aside0.mk hC1
  have HV0 := Aside0.mk (show ∀ r ∈ jn 8 l0, rcV r from fun r hr => by obtain ⟨z, hz, rfl⟩ := List.mem_map.1 hr; exact few_rcV (hw0 z (List.mem_of_mem_take hz)))
  have HV1 := Aside0.mk (show ∀ r ∈ jn 8 l1, rcV r from fun r hr => by obtain ⟨z, hz, rfl⟩ := List.mem_map.1 hr; exact few_rcV (hw1 z (List.mem_of_mem_take hz)))
  have hm0 := Kd.C_max hC0
  have hm1 := Kd.C_max hC1
  clear hC0 hC1 hw0 hw1 hl0 hl1
  go_enter Try.func3, Try.ntmps3
  go_wp2_with (go_at_call 14; refine HWK.out.mono ?_; rintro e w1 ⟨rfl, hb⟩; have HBw := Aside0.mk hb; clear hb)
  go_loopg [5, 24] l0.length (fun gg v5 s24 wr => ∃ kk : Nat, kk ≤ l0.length ∧ l0.length - kk ≤ gg ∧ s24 = .int .i64 kk ∧ Aside0 (Kd.N kRc 28 wr w1.heap.size (fun k => w1.heap.size ≤ k) v5 (jn 8 (l0.take kk))) ∧ Aside0 (Below w1.heap.size w1 wr))
  case atStart => exact ⟨0, by omega, by omega, rfl, ⟨Kd.N_nil _ _ _ _ _⟩, ⟨Below.refl _ _⟩⟩
  case round =>
    obtain ⟨kk, hkk, hg, rfl, HOk, HBk⟩ := hrel
    obtain ⟨wo, rfl⟩ : ∃ wo, wo = wr := ⟨_, rfl⟩
    by_cases hlt : kk < l0.length
    · have hltz : (kk : Int) < (l0.length : Int) := by omega
      obtain ⟨ad, A5, c5, A6, c6, hA, p0, p1, p2, p3, p4, p5, p6, ⟨hc5, h5⟩, hc6, h6⟩ := rc_at (Kd.C_below HC0.out (below_step HBw.out HBk.out)) kk hlt
      subst hA
      have HJ := Aside0.mk (jn_more 8 l0 kk hlt)
      have HJ2 := Aside0.mk (jn_same 8 l0 kk)
      generalize l0[kk] = x at *
      obtain ⟨wb, hwb⟩ : ∃ wb, wb = wo.alloc (.cells (rcL x A5 c5 A6 c6) 28) := ⟨_, rfl⟩
      have HX := Aside0.mk (show wb.heap[wo.heap.size]? = some (.cells (rcL x A5 c5 A6 c6) 28 (0, 0)) by rw [hwb]; exact heap_alloc_new _ _)
      have hbb : Below wo.heap.size wo wb := by rw [hwb]; exact (Below.refl _ _).alloc (Nat.le_refl _) _
      have HBb := Aside0.mk (below_step HBk.out hbb)
      have HOb := Aside0.mk (Kd.N_below HOk.out hbb)
      have HFW := Aside0.mk (fewS x A5 c5 A6 c6 wb (Kd.C_below h5 hbb) hc5 (Kd.C_below h6 hbb) hc6)
      have HW := Aside0.mk hwb
      clear hwb hbb h5 h6 hc5 hc6 HOk HBk
      go_upto_region 7 with (fail)
      rw [← HW.out]
      clear p0 p1 p2 p3 p4 p5 p6 HW
      obtain ⟨x0, x1, x2, x3, x4, x5, x6⟩ := rcF HX.out
      by_cases h8 : kk < 8
      · have h8z : (kk : Int) < 8 := by omega
        have HJ3 := Aside0.mk (HJ.out h8)
        have hjl := jn_len 8 (l0.take kk)
        generalize jn 8 (l0.take kk) = xs at *
        have HLT := Aside0.mk (Kd.N_lt HOb.out)
        go_wp2_with (first
          | (go_at_call 15; refine HFW.out.mono ?_; rintro e w2 ⟨B5, d5, B6, d6, rfl, hs, hb⟩; have HB2 := Aside0.mk (below_step HBb.out hb); have HO2 := Aside0.mk (Kd.N_below HOb.out hb); have HRS := Aside0.mk hs.fk; have HSZ := Aside0.mk hb.size; clear hs hb)
          | ((with_reducible refine gate_builtin (b := .append) (xs := #[.tmp 31, .tmp 34]) rfl ?_); at_builtin; refine Kd.N_append kRc (w0 := w1) w1.heap.size rfl (.tmp 31) (.tmp 34) 22 28 (.agg zcL) 88 rfl Try.underlying22 info_rec rfl (by decide) (by omega) u5 xs (fewR x) (rcL (fewR x) B5 d5 B6 d6).toList (fun k => w1.heap.size ≤ k) (fun k => wb.heap.size ≤ k) rfl rfl HRS.out (fun k hk => ⟨Nat.le_trans (below_size HBb.out) hk, fun e => by have h2 := HLT.out k e.symm; omega⟩) (fun k hk => Nat.le_trans (below_size HB2.out) hk) HO2.out HB2.out (below_size HB2.out) (by omega) ?_; intro v6 w3 ho hb hg6 hat; clear hg6 hat; rw [← HJ3.out] at ho; have HO3 := Aside0.mk ho; have HB3 := Aside0.mk hb; clear ho hb))
        go_roundg (l0.length - (kk + 1))
        case measure => omega
        case rel => exact ⟨kk + 1, by omega, by omega, by go_num, HO3, HB3⟩
      · have h8z : ¬ (kk : Int) < 8 := by omega
        rw [← HJ2.out (by omega)] at HOb
        go_wp2_with fail
        go_roundg (l0.length - (kk + 1))
        case measure => omega
        case rel => exact ⟨kk + 1, by omega, by omega, by go_num, HOb, HBb⟩
    · have hltz : ¬ (kk : Int) < (l0.length : Int) := by omega
      have hn := HOk.out
      rw [List.take_of_length_le (by omega)] at hn
      have HNa := Aside0.mk hn
      clear hn
      go_wp2_with fail
      obtain ⟨wa, rfl⟩ : ∃ wa, wa = wo := ⟨_, rfl⟩
      have HBa := Aside0.mk (below_step HBw.out HBk.out)
      clear HOk HBk hlt hltz hkk hg
      go_loopg [6, 39] l1.length (fun gg v6 s39 wr => ∃ kk : Nat, kk ≤ l1.length ∧ l1.length - kk ≤ gg ∧ s39 = .int .i64 kk ∧ Aside0 (Kd.N kRc 28 wr wa.heap.size (fun k => wa.heap.size ≤ k) v6 (jn 8 (l1.take kk))) ∧ Aside0 (Below wa.heap.size wa wr))
      case atStart => exact ⟨0, by omega, by omega, rfl, ⟨Kd.N_nil _ _ _ _ _⟩, ⟨Below.refl _ _⟩⟩
      case round =>
        obtain ⟨kk, hkk, hg, rfl, HOk, HBk⟩ := hrel
        obtain ⟨wo, rfl⟩ : ∃ wo, wo = wr := ⟨_, rfl⟩
        by_cases hlt : kk < l1.length
        · have hltz : (kk : Int) < (l1.length : Int) := by omega
          obtain ⟨ad, A5, c5, A6, c6, hA, p0, p1, p2, p3, p4, p5, p6, ⟨hc5, h5⟩, hc6, h6⟩ := rc_at (Kd.C_below HC1.out (below_step HBa.out HBk.out)) kk hlt
          subst hA
          have HJ := Aside0.mk (jn_more 8 l1 kk hlt)
          have HJ2 := Aside0.mk (jn_same 8 l1 kk)
          generalize l1[kk] = x at *
          obtain ⟨wb, hwb⟩ : ∃ wb, wb = wo.alloc (.cells (rcL x A5 c5 A6 c6) 28) := ⟨_, rfl⟩
          have HX := Aside0.mk (show wb.heap[wo.heap.size]? = some (.cells (rcL x A5 c5 A6 c6) 28 (0, 0)) by rw [hwb]; exact heap_alloc_new _ _)
          have hbb : Below wo.heap.size wo wb := by rw [hwb]; exact (Below.refl _ _).alloc (Nat.le_refl _) _
          have HBb := Aside0.mk (below_step HBk.out hbb)
          have HOb := Aside0.mk (Kd.N_below HOk.out hbb)
          have HFW := Aside0.mk (fewS x A5 c5 A6 c6 wb (Kd.C_below h5 hbb) hc5 (Kd.C_below h6 hbb) hc6)
          have HW := Aside0.mk hwb
          clear hwb hbb h5 h6 hc5 hc6 HOk HBk
          go_upto_region 13 with (fail)
          rw [← HW.out]
          clear p0 p1 p2 p3 p4 p5 p6 HW
          obtain ⟨x0, x1, x2, x3, x4, x5, x6⟩ := rcF HX.out
          by_cases h8 : kk < 8
          · have h8z : (kk : Int) < 8 := by omega
            have HJ3 := Aside0.mk (HJ.out h8)
            have hjl := jn_len 8 (l1.take kk)
            generalize jn 8 (l1.take kk) = xs at *
            have HLT := Aside0.mk (Kd.N_lt HOb.out)
            go_wp2_with (first
              | (go_at_call 15; refine HFW.out.mono ?_; rintro e w2 ⟨B5, d5, B6, d6, rfl, hs, hb⟩; have HB2 := Aside0.mk (below_step HBb.out hb); have HO2 := Aside0.mk (Kd.N_below HOb.out hb); have HRS := Aside0.mk hs.fk; have HSZ := Aside0.mk hb.size; clear hs hb)
              | ((with_reducible refine gate_builtin (b := .append) (xs := #[.tmp 46, .tmp 49]) rfl ?_); at_builtin; refine Kd.N_append kRc (w0 := wa) wa.heap.size rfl (.tmp 46) (.tmp 49) 22 28 (.agg zcL) 88 rfl Try.underlying22 info_rec rfl (by decide) (by omega) u6 xs (fewR x) (rcL (fewR x) B5 d5 B6 d6).toList (fun k => wa.heap.size ≤ k) (fun k => wb.heap.size ≤ k) rfl rfl HRS.out (fun k hk => ⟨Nat.le_trans (below_size HBb.out) hk, fun e => by have h2 := HLT.out k e.symm; omega⟩) (fun k hk => Nat.le_trans (below_size HB2.out) hk) HO2.out HB2.out (below_size HB2.out) (by omega) ?_; intro v7 w3 ho hb hg6 hat; clear hg6 hat; rw [← HJ3.out] at ho; have HO3 := Aside0.mk ho; have HB3 := Aside0.mk hb; clear ho hb))
            go_roundg (l1.length - (kk + 1))
            case measure => omega
            case rel => exact ⟨kk + 1, by omega, by omega, by go_num, HO3, HB3⟩
          · have h8z : ¬ (kk : Int) < 8 := by omega
            rw [← HJ2.out (by omega)] at HOb
            go_wp2_with fail
            go_roundg (l1.length - (kk + 1))
            case measure => omega
            case rel => exact ⟨kk + 1, by omega, by omega, by go_num, HOb, HBb⟩
        · have hltz : ¬ (kk : Int) < (l1.length : Int) := by omega
          have hn := HOk.out
          rw [List.take_of_length_le (by omega)] at hn
          have HNb := Aside0.mk hn
          clear hn
          go_wp2_with fail
          obtain ⟨wc, rfl⟩ : ∃ wc, wc = wo := ⟨_, rfl⟩
          have hBc := below_step HBa.out HBk.out
          have hNa := Kd.N_below HNa.out HBk.out
          have hNb := HNb.out
          have hla := jn_len 8 l0
          have hlb := jn_len 8 l1
          obtain ⟨A5, c5, hv5, hc5, hC5⟩ := Kd.N_reads hNa
          obtain ⟨A6, c6, hv6, hc6, hC6⟩ := Kd.N_reads hNb
          subst hv5 hv6
          have HFa := Aside0.mk (Kd.N_F hNa)
          have HFb := Aside0.mk (Kd.N_F hNb)
          have HBc := Aside0.mk hBc
          clear HOk HBk hlt hltz hkk hg hNa hNb HNa HNb hC5 hC6 HBa HBw hBc HC0 HC1 hc5 hc6
          generalize jn 8 l0 = a at *
          generalize jn 8 l1 = b at *
          have HALa := Aside0.mk (allU A5 c5 a wc (Kd.F_now HFa.out) (by omega))
          go_upto_region 17 with (go_at_call 16; refine HALa.out.mono ?_; rintro e w2 ⟨v, na, x, rfl, ho, hn, hx, hb⟩; obtain ⟨AX, cX, rfl, hcX, hCX⟩ := Kd.R_reads ho; have HFX := Aside0.mk (Kd.R_F ho); have HNA := Aside0.mk hn; have HXX := Aside0.mk hx; have HFa2 := Aside0.mk (Kd.F_below HFa.out hb); have HFb2 := Aside0.mk (Kd.F_below HFb.out hb); have HB2 := Aside0.mk (below_step HBc.out hb); have HCX := Aside0.mk hcX; clear ho hn hx hb hcX hCX)
          clear HFa HFb HBc HALa
          have HALb := Aside0.mk (allU A6 c6 b w2 (Kd.F_now HFb2.out) (by omega))
          go_upto_region 18 with (go_at_call 16; refine HALb.out.mono ?_; rintro e w3 ⟨v, nb, y, rfl, ho, hn, hy, hb⟩; obtain ⟨AY, cY, rfl, hcY, hCY⟩ := Kd.R_reads ho; have HFY := Aside0.mk (Kd.R_F ho); have HNB := Aside0.mk hn; have HYY := Aside0.mk hy; have HFa3 := Aside0.mk (Kd.F_below HFa2.out hb); have HFb3 := Aside0.mk (Kd.F_below HFb2.out hb); have HFX3 := Aside0.mk (Kd.F_below HFX.out hb); have HB3 := Aside0.mk (below_step HB2.out hb); have HCY := Aside0.mk hcY; clear ho hn hy hb hcY hCY)
          clear HFa2 HFb2 HB2 HALb HFX
          have hab : (a ++ b).length ≤ 16 := by rw [List.length_append]; omega
          obtain ⟨ab, hab2⟩ : ∃ ab, ab = a ++ b := ⟨_, rfl⟩
          rw [← hab2] at hab
          have HAB := Aside0.mk hab2
          clear hab2
          have hla3 := hla
          have hlb3 := hlb
          go_upto_region 19 with (first
            | ((with_reducible refine gate_dst (N := 62) rfl ?_); refine Kd.N_lit kRc (w0 := w3) w3.heap.size 28 ?hg (N' := 62) ?hd (xs := ([] : List Rc)) (inner := []) (ok := fun _ => True) (okp := fun _ => False) ?hr ?hp (fun _ hk => hk.elim) trivial (Below.refl _ _) (Nat.le_refl _) (by simp) ?_; (case hd => rfl); (case hg => rfl); (case hr => first | (go_simp; done) | (go_simp; rfl)); (case hp => exact (Reps.none _ _)); intro v62 w4 ho hb hg hnew; clear hg hnew; have HO4 := Aside0.mk ho; have HB4 := Aside0.mk hb; have HBS4 := Aside0.mk (Kd.N_base ho); have HFa4 := Aside0.mk (Kd.F_below (Kd.F_bound HFa3.out) hb); clear ho hb)
            | ((with_reducible refine gate_builtin (b := .append) (xs := #[.tmp 62, .tmp 63]) rfl ?_); at_builtin; refine Kd.N_append_rows kRc (w0 := w3) w3.heap.size rfl (.tmp 62) (.tmp 63) 22 28 (.agg zcL) 88 rfl Try.underlying22 info_rec rfl (by decide) (by omega) v62 [] a A5 _ c5 (fun _ => True) _ rfl rfl HO4.out HFa4.out (fun k hk => ⟨trivial, fun e => by have h1 := HBS4.out k e.symm; have h2 := hk.2; omega⟩) (fun _ _ => trivial) HB4.out (below_size HB4.out) (by simp only [List.length_nil]; omega) ?_; intro v64 w5 ho hb hg hat; clear hg hat; rw [List.nil_append] at ho; have HO5 := Aside0.mk ho; have HB5 := Aside0.mk hb; have HBS5 := Aside0.mk (Kd.N_base ho); have HFb5 := Aside0.mk (Kd.F_below (Kd.F_bound HFb3.out) hb); clear ho hb)
            | ((with_reducible refine gate_builtin (b := .append) (xs := #[.tmp 64, .tmp 65]) rfl ?_); at_builtin; refine Kd.N_append_rows kRc (w0 := w3) w3.heap.size rfl (.tmp 64) (.tmp 65) 22 28 (.agg zcL) 88 rfl Try.underlying22 info_rec rfl (by decide) (by omega) v64 a b A6 _ c6 (fun _ => True) _ rfl rfl HO5.out HFb5.out (fun k hk => ⟨trivial, fun e => by have h1 := HBS5.out k e.symm; have h2 := hk.2; omega⟩) (fun _ _ => trivial) HB5.out (below_size HB5.out) (by omega) ?_; intro v66 w6 ho hb hg hat; clear hg hat; rw [← HAB.out] at ho; obtain ⟨A7, c7, hv7, hc7, hC7⟩ := Kd.N_reads ho; subst hv7; have HFab := Aside0.mk (Kd.N_F ho); have HB6 := Aside0.mk hb; clear ho hb hC7 hc7))
          clear HO4 HB4 HBS4 HFa4 HO5 HB5 HBS5 HFb5 HFa3 HFb3 hla3 hlb3
          have HFX6 := Aside0.mk (Kd.F_below HFX3.out HB6.out)
          have HFY6 := Aside0.mk (Kd.F_below HFY.out HB6.out)
          have HBW := Aside0.mk (below_step HB3.out HB6.out)
          have HALab := Aside0.mk (allU A7 c7 ab w6 (Kd.F_now HFab.out) (by omega))
          clear HFX3 HFY HB3 HB6
          go_upto_region 20 with (go_at_call 16; refine HALab.out.mono ?_; rintro e w7 ⟨v, ng, z, rfl, ho, hn, hz, hb⟩; obtain ⟨AZ, cZ, rfl, hcZ, hCZ⟩ := Kd.R_reads ho; have HFZ := Aside0.mk (Kd.R_F ho); have HNG := Aside0.mk hn; have HZZ := Aside0.mk hz; have HFab7 := Aside0.mk (Kd.F_below HFab.out hb); have HFX7 := Aside0.mk (Kd.F_below HFX6.out hb); have HFY7 := Aside0.mk (Kd.F_below HFY6.out hb); have HB7 := Aside0.mk (below_step HBW.out hb); have HCZ := Aside0.mk hcZ; clear ho hn hz hb hcZ hCZ)
          clear HFab HFX6 HFY6 HBW HALab
          cases ha : a.all recOk with
          | false =>
            have hab0 : ab.all recOk = false := by rw [HAB.out, List.all_append, ha]; rfl
            rw [ha, if_neg (by decide)] at HNA
            rw [hab0, if_neg (by decide)] at HNG HZZ
            have h1 := HNA.out
            have h2 := HNG.out
            have h3 := HZZ.out
            subst h1 h2 h3
            clear ha hab0 HNA HNG HZZ
            go_wp2_with fail
            go_returns
            exact ⟨rfl, HB7.out⟩
          | true =>
            rw [ha, if_pos rfl] at HNA HXX
            have h1 := HNA.out
            subst h1
            clear HNA
            cases hb : b.all recOk with
            | false =>
              have hab0 : ab.all recOk = false := by rw [HAB.out, List.all_append, hb, Bool.and_false]
              rw [hb, if_neg (by decide)] at HNB
              rw [hab0, if_neg (by decide)] at HNG HZZ
              have h1 := HNB.out
              have h2 := HNG.out
              have h3 := HZZ.out
              subst h1 h2 h3
              clear ha hb hab0 HNB HNG HZZ
              go_wp2_with fail
              go_returns
              exact ⟨rfl, HB7.out⟩
            | true =>
              have hab0 : ab.all recOk = true := by rw [HAB.out, List.all_append, ha, hb]; rfl
              rw [hb, if_pos rfl] at HNB HYY
              rw [hab0, if_pos rfl] at HNG HZZ
              have h1 := HNB.out
              have h2 := HNG.out
              subst h1 h2
              have hok : ∀ r ∈ ab, recOk r = true ∧ rcV r := fun r hr => by
                refine ⟨List.all_eq_true.1 hab0 r hr, ?_⟩
                rw [HAB.out, List.mem_append] at hr
                rcases hr with hr | hr
                · exact HV0.out r hr
                · exact HV1.out r hr
              have HOK := Aside0.mk hok
              have hzl := allB_le ab (fun r hr => (hok r hr).1)
              rw [← HZZ.out] at hzl
              have hzl2 : z.length ≤ 64032 := by omega
              have HXYZ := Aside0.mk (show x ++ y = z by rw [HXX.out, HYY.out, HZZ.out, HAB.out, allB_append])
              have hxl : x.length + y.length ≤ 64032 := by have := congrArg List.length HXYZ.out; rw [List.length_append] at this; omega
              have HZB := Aside0.mk (show ∀ c ∈ z, isB c by rw [HZZ.out]; exact allB_byte ab)
              have HPB := Aside0.mk (show parseR z = some ab by rw [HZZ.out]; exact parse_back hok)
              have HPL := Aside0.mk (show z ≠ [] → parseR (z.take (z.length - 1)) = none by rw [HZZ.out]; exact fun h => parse_less hok h)
              clear ha hb hab0 HNB HNG hok hzl HXX HYY HV0 HV1 HZZ HAB
              go_upto_region 24 with (first
                | ((with_reducible refine gate_dst (N := 89) rfl ?_); refine gate_guard (by rfl) ?_; dsimp only; refine Kd.R_lit (Kd.int .u8) (w0 := w7) w7.heap.size 5 ?hg (N := 89) ?hd (xs := ([] : List Int)) (inner := []) (ok := fun _ => True) (okp := fun _ => True) ?hr ?hp (fun _ hk => hk) trivial (Below.refl _ _) (Nat.le_refl _) (by simp) ?_; (case hd => rfl); (case hg => rfl); (case hr => first | (go_simp; done) | (go_simp; rfl)); (case hp => exact (Reps.none _ _)); intro v89 w8 ho hb hg hnew; clear hg hnew; have HO8 := Aside0.mk ho; have HB8 := Aside0.mk hb; clear ho hb)
                | ((with_reducible refine gate_builtin (b := .append) (xs := #[.tmp 89, .tmp 90]) rfl ?_); refine gate_guard (by rfl) ?_; dsimp only; at_builtin; refine Kd.R_append_rows (Kd.int .u8) (w0 := w7) w7.heap.size rfl (.tmp 89) (.tmp 90) 30 5 (.int .u8 0) 1 rfl Try.underlying30 info_u8 rfl (by decide) (by omega) v89 [] x _ _ _ (fun _ => True) (fun _ => False) rfl rfl HO8.out (Kd.F_now (Kd.F_below HFX7.out HB8.out)) (fun _ _ h => h) (fun _ h => h.elim) (fun _ _ => trivial) HB8.out (below_size HB8.out) (by simp only [List.length_nil]; omega) ?_; intro v91 w9 ho hb hg hat; clear hat hg; rw [List.nil_append] at ho; have HO9 := Aside0.mk ho; have HB9 := Aside0.mk hb; clear ho hb)
                | ((with_reducible refine gate_builtin (b := .append) (xs := #[.tmp 91, .tmp 92]) rfl ?_); refine gate_guard (by rfl) ?_; dsimp only; at_builtin; refine Kd.R_append_rows (Kd.int .u8) (w0 := w7) w7.heap.size rfl (.tmp 91) (.tmp 92) 30 5 (.int .u8 0) 1 rfl Try.underlying30 info_u8 rfl (by decide) (by omega) v91 x y _ _ _ (fun _ => True) (fun _ => False) rfl rfl HO9.out (Kd.F_now (Kd.F_below HFY7.out HB9.out)) (fun _ _ h => h) (fun _ h => h.elim) (fun _ _ => trivial) HB9.out (below_size HB9.out) (by omega) ?_; intro v93 w10 ho hb hg hat; clear hat hg; rw [HXYZ.out] at ho; obtain ⟨A9, c9, hv9, hc9, hC9⟩ := Kd.R_reads ho; subst hv9; have HEQ := Aside0.mk (P.bytes_Equal.calls AZ cZ z A9 c9 z true w10 (Kd.F_now (Kd.F_below HFZ.out hb)) HCZ.out hC9 hc9 (by rw [equal_is z z HZB.out HZB.out, decide_eq_true rfl])); have HB10 := Aside0.mk hb; clear ho hb hC9 hc9)
                | (go_at_call 17; refine HEQ.out.mono ?_; rintro e w11 ⟨rfl, hd⟩; have HB11 := Aside0.mk (below_step HB10.out hd.below); clear hd))
              have HBZ := Aside0.mk (below_step HB7.out HB11.out)
              have HFab1 := Aside0.mk (Kd.F_below HFab7.out HB11.out)
              have HFZ1 := Aside0.mk (Kd.F_below HFZ.out HB11.out)
              clear HO8 HB8 HO9 HB9 HB10 HEQ HB11 HFX7 HFY7 HFab7 HFZ HXYZ HB7 hxl
              have HPA := Aside0.mk (recParse AZ cZ z w11 (Kd.F_now HFZ1.out) HCZ.out (by omega) HZB.out)
              go_upto_region 25 with (go_at_call 18; refine HPA.out.mono ?_; intro e w12 hP; unfold ParsePost at hP; obtain ⟨hsome, _, hb⟩ := hP; obtain ⟨v, rfl, hN⟩ := hsome _ HPB.out; obtain ⟨A8, c8, hv8, hc8, hC8⟩ := Kd.N_reads hN; subst hv8; have HBK := Aside0.mk (Kd.N_F hN); have HFab2 := Aside0.mk (Kd.F_below HFab1.out hb); have HFZ2 := Aside0.mk (Kd.F_below HFZ1.out hb); have HB12 := Aside0.mk (below_step HBZ.out hb); clear hsome hb hN hC8 hc8)
              clear HPA HFab1 HFZ1 HBZ
              go_wp2_with fail
              go_loopg [113] ab.length (fun gg s113 wr => ∃ kk : Nat, kk ≤ ab.length ∧ ab.length - kk ≤ gg ∧ s113 = .int .i64 kk ∧ Aside0 (Below w12.heap.size w12 wr))
              case atStart => exact ⟨0, by omega, by omega, rfl, ⟨Below.refl _ _⟩⟩
              case round =>
                obtain ⟨kk, hkk, hg, rfl, HBk⟩ := hrel
                obtain ⟨wo, rfl⟩ : ∃ wo, wo = wr := ⟨_, rfl⟩
                by_cases hlt : kk < ab.length
                · have hltz : (kk : Int) < (ab.length : Int) := by omega
                  obtain ⟨ad, A3, c3, A4, c4, hA, p0, p1, p2, p3, p4, p5, p6, ⟨hc3, h3⟩, hc4, h4⟩ := rc_at (Kd.F_now (Kd.F_below HBK.out HBk.out)) kk hlt
                  obtain ⟨bd, B3, d3, B4, d4, hB, q0, q1, q2, q3, q4, q5, q6, ⟨hd3, g3⟩, hd4, g4⟩ := rc_at (Kd.F_now (Kd.F_below HFab2.out HBk.out)) kk hlt
                  subst hA hB
                  generalize ab[kk] = x at *
                  have HS := Aside0.mk (fun (p : Gr wo) => record_Same.calls x x A3 c3 A4 c4 B3 d3 B4 d4 p.w (Kd.C_below h3 p.h) (Kd.C_below h4 p.h) (Kd.C_below g3 p.h) (Kd.C_below g4 p.h))
                  rw [(sameR_iff x x).2 rfl] at HS
                  have X0 := fun p => Gr.cell p0 p
                  have X1 := fun p => Gr.cell p1 p
                  have X2 := fun p => Gr.cell p2 p
                  have X3 := fun p => Gr.cell p3 p
                  have X4 := fun p => Gr.cell p4 p
                  have X5 := fun p => Gr.cell p5 p
                  have X6 := fun p => Gr.cell p6 p
                  have Y0 := fun p => Gr.cell q0 p
                  have Y1 := fun p => Gr.cell q1 p
                  have Y2 := fun p => Gr.cell q2 p
                  have Y3 := fun p => Gr.cell q3 p
                  have Y4 := fun p => Gr.cell q4 p
                  have Y5 := fun p => Gr.cell q5 p
                  have Y6 := fun p => Gr.cell q6 p
                  clear p0 p1 p2 p3 p4 p5 p6 q0 q1 q2 q3 q4 q5 q6 h3 h4 g3 g4 hc3 hc4 hd3 hd4
                  go_upto_region 30 with (fail)
                  refine wp_region_gr (by kernel_rfl) (by kernel_rfl) ?_
                  repeat (go_big_quiet_step ((go_at_call 19; exact Calls.gr_of (HS.out _))))
                  refine wpQuiet_nil ?_
                  intro w9 hw'
                  have HB9 := Aside0.mk (below_step HBk.out (show Below wo.heap.size wo w9 by obtain ⟨p, rfl⟩ := hw'; exact p.h))
                  clear hw' X0 X1 X2 X3 X4 X5 X6 Y0 Y1 Y2 Y3 Y4 Y5 Y6 HS
                  go_wp2_with fail
                  go_roundg (ab.length - (kk + 1))
                  case measure => omega
                  case rel => exact ⟨kk + 1, by omega, by omega, by go_num, HB9⟩
                · have hltz : ¬ (kk : Int) < (ab.length : Int) := by omega
                  have HBE := Aside0.mk (below_step HB12.out HBk.out)
                  have HFZ3 := Aside0.mk (Kd.F_below HFZ2.out HBk.out)
                  clear HBk HB12 HFZ2 HBK HFab2
                  by_cases hz : z = []
                  · subst hz
                    go_wp2_with fail
                    go_returns
                    exact ⟨rfl, HBE.out⟩
                  · have hzp : 0 < z.length := List.length_pos_iff.2 hz
                    have HPN := Aside0.mk (HPL.out hz)
                    obtain ⟨m, hm⟩ : ∃ m : Nat, m = z.length - 1 := ⟨_, rfl⟩
                    obtain ⟨t1, t2, t3⟩ := cut_take AZ cZ z m (by omega) HCZ.out
                    rw [← hm] at HPN
                    have hmz : (z.length : Int) - 1 = (m : Int) := by omega
                    have ew2 : IntKind.i64.wrap (m : Int) = (m : Int) := IntWalk.i64_in _ (by omega)
                    have hz0 : ((z.length : Int) == 0) = false := by rw [beq_eq_false_iff_ne]; omega
                    have hz1 : ¬ ((z.length : Int) = 0) := by omega
                    have htl : (z.take m).length ≤ 64032 := by rw [List.length_take]; omega
                    have HTB := Aside0.mk (show ∀ x ∈ z.take m, isB x from fun x hx => HZB.out x (List.mem_of_mem_take hx))
                    have HPA := Aside0.mk (recParse AZ cZ (z.take m) wo (t2 _ (Kd.F_now HFZ3.out)) t3 (by omega) HTB.out)
                    have HT3 := Aside0.mk t3
                    clear hm t2 t3 hzp hz HPL
                    generalize z.take m = zt at *
                    go_wp2_with (go_at_call 18; refine HPA.out.mono ?_; intro e w13 hP; unfold ParsePost at hP; obtain ⟨_, hnone, hb⟩ := hP; obtain rfl := hnone HPN.out; have HB13 := Aside0.mk (below_step HBE.out hb); clear hnone hb)
                    go_returns
                    exact ⟨rfl, HB13.out⟩

end Go.Proofs.Ytngjaaldidmgjaa.G
