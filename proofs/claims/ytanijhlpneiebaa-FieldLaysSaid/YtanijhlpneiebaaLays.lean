/- quiverlaw01.FieldLays answers true, for every bytes, size and number. -/
import Derived.Test.YtanijhlpneiebaaR1
import Derived.Test.YtanijhlpneiebaaG9
namespace Go.Proofs.Ytanijhlpneiebaa.G
open Go.RowKit Go.Proofs.YtanijhlpneiebaaW.PrintWords Go.Proofs.YtanijhlpneiebaaW.PrintLast Go.Proofs.YtanijhlpneiebaaW.PrintMore
set_option linter.unusedVariables false
set_option linter.unusedSimpArgs false

/-- make([]byte, 0, c): an empty row of one's own that has room. -/
theorem R_cap {ops : Array Oper} {rest : List Oper} {o : Oper} {a : Act} {Q : Exit → Act → World → Prop} {w0 W : World} (base : Nat) (hgd : o.guard = none) {N : Tmp} (_hd : o.dst = some N) (x y : Operand) (ho : o.op = .makeSlice 22 x y) (c : Nat) (hx : a.eval x = .int .i64 0) (hy : a.eval y = .int .i64 (c : Int))
    (hc : c ≤ 1000000) (HB : Below base w0 W) (hbase : base ≤ W.heap.size)
    (h : ∀ v1 w1, Kd.R (Kd.int .u8) 5 w1 base (fun _ => True) v1 [] → Below base w0 w1 → wpList Try.prog ops Q rest (a.put o.dst v1) w1) : wpList Try.prog ops Q (o :: rest) a W := by
  obtain ⟨i0, hi, hzz⟩ := Option.map_eq_some_iff.1 info_u8
  simp only [Prod.mk.injEq] at hzz
  obtain ⟨hz0, hz1, hz2⟩ := hzz
  obtain ⟨w', hrun, hown, hg⟩ := run_make_own (P := Try.prog) W base 22 5 i0 (.int .u8 0) 1 Try.underlying22 hi hz0 hz1 .i64 .i64 c (by rw [hz2]; omega) (by unfold maxLen; omega) hbase
  refine Kd.event_run hgd (v := .slice (some ⟨W.heap.size, 0, none⟩) 0 c) (w1 := w') ?_ (h _ _ ⟨fun _ _ => trivial, [], hown, Reps.none _ _⟩ (HB.grown hg hbase (fun k e => by cases e)))
  simp [execOp, ho, hx, hy, hrun]

abbrev nine : List Int := [1, 2, 3, 4, 5, 6, 7, 8, 9]
theorem room_at (l : List Int) (i : Nat) (h : i < 9) : rd (l ++ nine) ((l.length + i : Nat) : Int) = (i : Int) + 1 := by
  rw [rd_at _ _ (by simp; omega), List.getElem_append_right (by omega)]
  have : i = 0 ∨ i = 1 ∨ i = 2 ∨ i = 3 ∨ i = 4 ∨ i = 5 ∨ i = 6 ∨ i = 7 ∨ i = 8 := by omega
  rcases this with rfl | rfl | rfl | rfl | rfl | rfl | rfl | rfl | rfl <;> simp [nine]
theorem put_len (n x : Int) : (putBytes n x).length ≤ 8 := by
  unfold putBytes
  split
  · rename_i h
    have := isSize_iff.1 h
    rw [putFrom_length]; omega
  · simp
theorem bdL {g : Nat} {w w1 w2 : World} (h : Below g w w1) (hd : Drawn0 w1 w2) : Below g w w2 := by
  obtain ⟨⟨nd, rfl⟩⟩ := hd
  exact pw_below_drewN h nd

set_option maxHeartbeats 4000000 in
set_option maxRecDepth 100000 in
theorem fieldLays.go (A : Option Addr) (c : Nat) (l : List Int) (n x : Int) (w : World) (hr : Kd.C (Kd.int .u8) w A l.length l) (hc : l.length ≤ c) (hx0 : 0 ≤ x) (hx1 : x < 18446744073709551616) :
    Calls Try.prog 3 #[.slice A l.length c, .int .i64 n, .int .u64 x] w fun e w' => e = .returned (.bool true) ∧ Below w.heap.size w w' := by
  have HR := Aside0.mk hr
  have HC := Aside0.mk hc
  have hml := Kd.C_max hr
  clear hr hc
  by_cases hbig : 5000 < l.length
  · have hbz : (5000 : Int) < (l.length : Int) := by omega
    go_enter Try.func3, Try.ntmps3
    go_wp2_with fail
    refine (wakes01.calls true _ rfl).mono ?_
    rintro e w1 ⟨rfl, hb1⟩
    have HB1 := Aside0.mk hb1
    clear hb1
    go_wp2_with fail
    go_returns
    exact ⟨rfl, HB1.out⟩
  have hbz : (l.length : Int) ≤ 5000 := by omega
  have HPUT := Aside0.mk (put_is l n x 20 (by omega) (by omega))
  have HLAY := Aside0.mk (lay_is l n (wrap64 x) 20 (by omega) (by omega))
  have HRP := Aside0.mk (ref_put_is l n x 20 (by omega) (by omega) hx0 hx1)
  have HRL := Aside0.mk (ref_lay_is l n (wrap64 x) 20 (by omega) (by omega))
  have hl1 := put_len n x
  have hl2 := put_len n (IntKind.u64.wrap (wrap64 x))
  obtain ⟨pq, hpq⟩ : ∃ pq, pq = l ++ putBytes n x := ⟨_, rfl⟩
  obtain ⟨lq, hlq⟩ : ∃ pq, pq = l ++ putBytes n (IntKind.u64.wrap (wrap64 x)) := ⟨_, rfl⟩
  have hs1 : pq.length < 140737488355328 := by rw [hpq, List.length_append]; omega
  have hs2 : lq.length < 140737488355328 := by rw [hlq, List.length_append]; omega
  have HSP := Aside0.mk (ref_same_self pq hs1)
  have HSL := Aside0.mk (ref_same_self lq hs2)
  have HSO := Aside0.mk (ref_same_self l (by omega))
  rw [← hpq] at HPUT HRP
  rw [← hlq] at HLAY HRL
  clear hpq hlq hl1 hl2 hs1 hs2
  obtain ⟨f1, hf1⟩ : ∃ f1, f1 = (isSize n && decide (x < 256 ^ n.toNat)) := ⟨_, rfl⟩
  obtain ⟨f2, hf2⟩ : ∃ f2, f2 = (isSize n && decide (-(256 ^ n.toNat) ≤ 2 * wrap64 x ∧ 2 * wrap64 x < 256 ^ n.toNat)) := ⟨_, rfl⟩
  have hwr : -9223372036854775808 ≤ wrap64 x ∧ wrap64 x < 9223372036854775808 := by unfold wrap64; omega
  have HF1 := Aside0.mk (field_Fits_is n x hx0 hx1)
  have HF2 := Aside0.mk (ref_fits_is n x 64 (by omega) hx0 hx1)
  have HG1 := Aside0.mk (field_FitsInt_is n (wrap64 x) hwr.1 hwr.2)
  have HG2 := Aside0.mk (ref_int_is n (wrap64 x) 64 (by omega) hwr.1 hwr.2)
  rw [← hf1] at HF1 HF2
  rw [← hf2] at HG1 HG2
  clear hf1 hf2 hwr hx0 hx1 hbig
  go_enter Try.func3, Try.ntmps3
  go_wp2_with fail
  refine (wakes01.calls true _ rfl).mono ?_
  rintro e w1 ⟨rfl, hb1⟩
  have HB1 := Aside0.mk hb1
  have HR1 := Aside0.mk (Kd.C_below HR.out hb1)
  clear hb1
  go_wp2_with (first
    | ((with_reducible refine gate_dst (N := 18) rfl ?_); refine Kd.R_lit (Kd.int .u8) (w0 := w) w.heap.size 5 ?hg (N := 18) ?hd (xs := ([] : List Int)) (inner := []) (ok := fun _ => True) (okp := fun _ => True) ?hr ?hp (fun _ hk => hk) trivial HB1.out (below_size HB1.out) (by simp) ?_; (case hd => rfl); (case hg => rfl); (case hr => first | (go_simp; done) | (go_simp; rfl)); (case hp => exact (Reps.none _ _)); intro v18 w1a ho10 hb hg_ hnew_; clear hg_ hnew_; have HO := Aside0.mk ho10; have HB1a := Aside0.mk hb; clear ho10 hb)
    | ((with_reducible refine gate_builtin (b := .append) (xs := #[.tmp 18, .tmp 19]) rfl ?_); at_builtin; refine Kd.R_append_rows (Kd.int .u8) (w0 := w) w.heap.size rfl (.tmp 18) (.tmp 19) 22 5 (.int .u8 0) 1 rfl Try.underlying22 info_u8 rfl (by decide) (by omega) v18 [] l A l.length c (fun _ => True) (fun _ => False) rfl rfl HO.out (Kd.C_below HR.out HB1a.out) (fun _ _ h => h) (fun _ h => h.elim) (fun _ _ => trivial) HB1a.out (below_size HB1a.out) (by simp; omega) ?_; intro v20 w2 ho hb hg hat; clear hg hat; obtain ⟨A2, c2, e2, hl2, hC2⟩ := Kd.R_reads ho; subst e2; have HC2 := Aside0.mk (show Kd.C (Kd.int .u8) w2 A2 l.length l from hC2); have HL2 := Aside0.mk (show l.length ≤ c2 from hl2); have HB2 := Aside0.mk hb; clear ho hb hC2 hl2)
    | ((with_reducible refine gate_dst (N := 24) rfl ?_); refine R_cap (w0 := w2) w2.heap.size ?hg (N := 24) ?hd _ _ rfl (l.length + 20) rfl rfl (by omega) (Below.refl _ _) (Nat.le_refl _) ?_; (case hd => rfl); (case hg => rfl); intro v24 w3 ho hb; have HO3 := Aside0.mk ho; have HB3 := Aside0.mk hb; clear ho hb)
    | ((with_reducible refine gate_builtin (b := .append) (xs := #[.tmp 24, .tmp 25]) rfl ?_); at_builtin; refine Kd.R_append_rows (Kd.int .u8) (w0 := w2) w2.heap.size rfl (.tmp 24) (.tmp 25) 22 5 (.int .u8 0) 1 rfl Try.underlying22 info_u8 rfl (by decide) (by omega) v24 [] l A l.length c (fun _ => True) (fun _ => False) rfl rfl HO3.out (Kd.C_below HR.out (below_step HB2.out HB3.out)) (fun _ _ h => h) (fun _ h => h.elim) (fun _ _ => trivial) HB3.out (below_size HB3.out) (by simp; omega) ?_; intro v26 w4 ho hb hg hat; clear hg hat; have HO4 := Aside0.mk ho; have HB4 := Aside0.mk hb; clear ho hb)
    | ((with_reducible refine gate_builtin (b := .append) (xs := #[.tmp 26, .tmp 27]) rfl ?_); at_builtin; refine Kd.R_append_rows (Kd.int .u8) (w0 := w2) w2.heap.size rfl (.tmp 26) (.tmp 27) 22 5 (.int .u8 0) 1 rfl Try.underlying22 info_u8 rfl (by decide) (by omega) v26 ([] ++ l) nine (some ⟨w4.heap.size, 0, none⟩) 9 9 (fun _ => True) (fun _ => False) rfl rfl (Kd.R_alloc HO4.out _) (C_lit .u8 w4 nine 5 (by decide)) (fun _ _ h => h) (fun _ h => h.elim) (fun _ _ => trivial) (HB4.out.alloc HB4.out.size _) (below_size (HB4.out.alloc HB4.out.size _)) (by simp; omega) ?_; intro v28 w5 ho hb hg hat; clear hg hat; obtain ⟨A5, c5, e5, hl5, hC5⟩ := Kd.R_reads ho; subst e5; have hcz5 : (l.length : Int) ≤ (c5 : Int) := (by have h := hl5; rw [List.length_append] at h; simp only [List.nil_append] at h; omega); have HC5 := Aside0.mk hC5; have HL5 := Aside0.mk hl5; have HB5 := Aside0.mk hb; clear ho hb hC5 hl5))
  have HCT := Aside0.mk (show Kd.C (Kd.int .u8) w5 A5 l.length l by
    have := Kd.C_take (m := l.length) HC5.out (by simp)
    rwa [show (([] : List Int) ++ l ++ nine).take l.length = l by simp] at this)
  have HLT := Aside0.mk (show l.length ≤ c5 by omega)
  refine (P.field_Put.calls 20 A5 c5 l n x pq w5 HCT.out HLT.out HPUT.out).mono ?_
  rintro e w6 ⟨v6, rfl, ho6, hb6⟩
  obtain ⟨A6, c6, rfl, hl6, hC6⟩ := Kd.R_reads ho6
  have HB6 := Aside0.mk hb6
  have HC6 := Aside0.mk hC6
  have HL6 := Aside0.mk hl6
  have HCT6 := Aside0.mk (Kd.C_below HCT.out hb6)
  clear ho6 hb6 hC6 hl6
  go_wp2_with fail
  refine (P.field_Lay.calls 20 A5 c5 l n (wrap64 x) lq w6 HCT6.out HLT.out HLAY.out).mono ?_
  rintro e w7 ⟨v7, rfl, ho7, hb7⟩
  obtain ⟨A7, c7, rfl, hl7, hC7⟩ := Kd.R_reads ho7
  have HB7 := Aside0.mk (below_step HB6.out hb7)
  have HC7 := Aside0.mk hC7
  have HL7 := Aside0.mk hl7
  have HC67 := Aside0.mk (Kd.C_below HC6.out hb7)
  clear ho7 hb7 hC7 hl7 HPUT HLAY
  have HC27 := Aside0.mk (Kd.C_below HC2.out (below_step HB5.out HB7.out))
  go_wp2_with fail
  refine (P.quiverref01_Put.calls 20 A2 c2 l n x pq w7 HC27.out HL2.out HRP.out).mono ?_
  rintro e w8 ⟨v8, rfl, ho8, hb8⟩
  obtain ⟨A8, c8, rfl, hl8, hC8⟩ := Kd.R_reads ho8
  have HB8 := Aside0.mk (below_step HB7.out hb8)
  have HC8 := Aside0.mk hC8
  have HL8 := Aside0.mk hl8
  have HC68 := Aside0.mk (Kd.C_below HC67.out hb8)
  have HC78 := Aside0.mk (Kd.C_below HC7.out hb8)
  have HC28 := Aside0.mk (Kd.C_below HC27.out hb8)
  clear ho8 hb8 hC8 hl8 HRP
  go_wp2_with fail
  refine (P.quiverref01_Same.calls (pq.length + 1) A6 c6 pq A8 c8 pq true w8 HC68.out HL6.out HC8.out HL8.out HSP.out).mono ?_
  rintro e w9 ⟨rfl, hd9⟩
  have HB9 := Aside0.mk (bdL HB8.out hd9)
  have HC79 := Aside0.mk (Kd.C_below HC78.out (bdL (Below.refl _ _) hd9))
  have HC29 := Aside0.mk (Kd.C_below HC28.out (bdL (Below.refl _ _) hd9))
  clear hd9
  go_wp2_with fail
  refine (P.quiverref01_Lay.calls 20 A2 c2 l n (wrap64 x) lq w9 HC29.out HL2.out HRL.out).mono ?_
  rintro e w10 ⟨v10, rfl, ho10, hb10⟩
  obtain ⟨A10, c10, rfl, hl10, hC10⟩ := Kd.R_reads ho10
  have HB10 := Aside0.mk (below_step HB9.out hb10)
  have HC10 := Aside0.mk hC10
  have HL10 := Aside0.mk hl10
  have HC710 := Aside0.mk (Kd.C_below HC79.out hb10)
  have HC210 := Aside0.mk (Kd.C_below HC29.out hb10)
  clear ho10 hb10 hC10 hl10 HRL
  go_wp2_with fail
  refine (P.quiverref01_Same.calls (lq.length + 1) A7 c7 lq A10 c10 lq true w10 HC710.out HL7.out HC10.out HL10.out HSL.out).mono ?_
  rintro e w11 ⟨rfl, hd11⟩
  have HB11 := Aside0.mk (bdL HB10.out hd11)
  have HC211 := Aside0.mk (Kd.C_below HC210.out (bdL (Below.refl _ _) hd11))
  clear hd11
  have HCO := Aside0.mk (Kd.C_below HR.out (below_step HB2.out (below_step HB5.out HB11.out)))
  go_wp2_with fail
  refine (P.quiverref01_Same.calls (l.length + 1) A c l A2 c2 l true w11 HCO.out HC.out HC211.out HL2.out HSO.out).mono ?_
  rintro e w12 ⟨rfl, hd12⟩
  have HB12 := Aside0.mk (bdL HB11.out hd12)
  have HCR := Aside0.mk (Kd.C_below HC5.out HB12.out)
  have HBE := Aside0.mk (below_step HB2.out (below_step HB5.out HB12.out))
  clear hd12
  go_wp2_with fail
  go_loopg [65] 9 (fun gg s65 wr => ∃ i : Nat, i ≤ 9 ∧ 9 - i ≤ gg ∧ s65 = .int .i64 i ∧ Aside0 (wr = w12))
  case atStart => exact ⟨0, Nat.zero_le _, by omega, rfl, ⟨rfl⟩⟩
  case round =>
    obtain ⟨i, hi, hgi, rfl, HE⟩ := hrel
    have he := HE.out
    subst he
    by_cases hit : i < 9
    · have hiz : (i : Int) < 9 := by omega
      have hlz : (l.length : Int) + (i : Int) < (l.length : Int) + 9 := by omega
      have hlz0 : (0 : Int) ≤ (l.length : Int) + (i : Int) := by omega
      obtain ⟨ad, hA, hcell⟩ := C_byte HCR.out (l.length + i) (by simp; omega)
      subst hA
      have hrd : rd ([] ++ l ++ nine) ((l.length + i : Nat) : Int) = (i : Int) + 1 := room_at l i hit
      rw [hrd] at hcell
      clear hrd HE
      go_wp2_with fail
      go_roundg (9 - (i + 1))
      case measure => omega
      case rel => exact ⟨i + 1, hit, by omega, by go_num, ⟨rfl⟩⟩
    · obtain rfl : i = 9 := by omega
      clear HE
      go_wp2_with fail
      refine (P.field_Fits.calls n x f1 _ HF1.out).mono ?_
      rintro e w13 ⟨rfl, hd13⟩
      have HB13 := Aside0.mk (bdL HBE.out hd13)
      clear hd13
      go_wp2_with fail
      refine (P.quiverref01_Fits.calls 64 n x f1 _ HF2.out).mono ?_
      rintro e w14 ⟨rfl, hd14⟩
      have HB14 := Aside0.mk (bdL HB13.out hd14)
      clear hd14
      have eb : (f1 == f1) = true := by simp
      have eb2 : (f2 == f2) = true := by simp
      go_wp2_with fail
      refine (P.field_FitsInt.calls n (wrap64 x) f2 _ HG1.out).mono ?_
      rintro e w15 ⟨rfl, hd15⟩
      have HB15 := Aside0.mk (bdL HB14.out hd15)
      clear hd15
      go_wp2_with fail
      refine (P.quiverref01_FitsInt.calls 64 n (wrap64 x) f2 _ HG2.out).mono ?_
      rintro e w16 ⟨rfl, hd16⟩
      have HB16 := Aside0.mk (bdL HB15.out hd16)
      clear hd16
      go_wp2_with fail
      go_returns
      exact ⟨by simp, HB16.out⟩

theorem fieldLays.walk (A : Option Addr) (c : Nat) (l : List Int) (n x : Int) (W : World) (hl : l.length ≤ c) (hC : Kd.C (Kd.int .u8) W A l.length l) (wl : ∀ y ∈ l, (Lit.int .u8 y).wf = true) (wn : (Lit.int .i64 n).wf = true) (wx : (Lit.int .u64 x).wf = true) :
    Calls Try.prog 3 #[.slice A l.length c, .int .i64 n, .int .u64 x] W fun e W' => e = .returned (.bool true) ∧ Below W.heap.size W W' := by
  have h : 0 ≤ x ∧ x ≤ 18446744073709551615 := by simpa [Lit.wf, IntKind.min, IntKind.max, IntKind.signed, IntKind.bits] using wx
  exact fieldLays.go A c l n x W hC hl h.1 (by omega)

end Go.Proofs.Ytanijhlpneiebaa.G
