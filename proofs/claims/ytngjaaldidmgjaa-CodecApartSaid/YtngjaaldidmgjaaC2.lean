/- Contracts of codec.laid, Vec, Row, Version. -/
import Derived.Test.YtngjaaldidmgjaaS1
import Derived.Test.YtngjaaldidmgjaaC1
import Derived.Handy
namespace Go.Proofs.Ytngjaaldidmgjaa.G
open Go.Shelf Go.RowKit Go.Proofs.YtngjaaldidmgjaaW.PrintWords Go.Proofs.YtngjaaldidmgjaaW.PrintLast Go.Proofs.YtngjaaldidmgjaaW.PrintMore
set_option linter.unusedVariables false
set_option linter.unusedSimpArgs false

/-- A component's bytes. -/
def numB (x : Int) : List Int := putBytes 4 (IntKind.u64.wrap x)
def vecT (v : List Int) : List Int := (v.map numB).flatten
/-- A vector's bytes. -/
def vecB (v : List Int) : List Int := ((v.length : Int) % 256) :: vecT v
theorem numB_len (x : Int) : (numB x).length = 4 := by unfold numB putBytes; rw [if_pos (by decide)]; rfl
theorem vecT_len (v : List Int) : (vecT v).length = 4 * v.length := by
  induction v with
  | nil => rfl
  | cons x v ih =>
    unfold vecT at ih ⊢
    rw [List.map_cons, List.flatten_cons, List.length_append, ih, numB_len, List.length_cons]
    omega
theorem number_is (l : List Int) (x : Int) (h1 : -2147483648 ≤ x) (h2 : x ≤ 2147483647) (hl : l.length < 140737488355320) : P.codec_number.f 20 l x = some (l ++ numB x) := by
  unfold P.codec_number.f
  rw [w64 (by omega) (by omega), lay_is l 4 x 20 (by omega) hl, Option.bind_some]
  rfl

set_option maxHeartbeats 4000000 in
set_option maxRecDepth 100000 in
theorem laid_go (w0 w : World) (A : Option Addr) (c : Nat) (b : List Int) (B : Option Addr) (d : Nat) (v : List Int) (hb : Below w0.heap.size w0 w) (ho : Kd.R (Kd.int .u8) 5 w w0.heap.size (fun _ => True) (.slice A b.length c) b) (hr : Kd.C (Kd.int .i32) w0 B v.length v) (hd : v.length ≤ d) (hv : ∀ x ∈ v, -2147483648 ≤ x ∧ x ≤ 2147483647) (hbl : b.length ≤ 1000) (hvl : v.length ≤ 1000) :
    Calls Try.prog 66 #[.slice A b.length c, .slice B v.length d, .func (.func 67) #[] #[]] w fun e w' => ∃ v0_ : Value, e = .returned v0_ ∧ Kd.R (Kd.int .u8) 5 w' w0.heap.size (fun _ => True) v0_ (b ++ vecB v) ∧ Below w0.heap.size w0 w' := by
  have HB := Aside0.mk hb
  have HO := Aside0.mk ho
  have HR := Aside0.mk hr
  have hm := Kd.C_max hr
  have eg : ∀ args w, (callFunc 67 args).run Try.prog w = .ok (.enter 67 args) w := enters_of Try.func67 (by kernel_rfl) rfl
  have HV := Aside0.mk hv
  clear hb ho hr hv
  go_enter Try.func66, Try.ntmps66
  go_wp2_with ((with_reducible refine gate_builtin (b := .append) (xs := #[.tmp 9, .tmp 13]) rfl ?_); at_builtin; refine Kd.R_append (Kd.int .u8) (w0 := w0) w0.heap.size rfl (.tmp 9) (.tmp 13) 30 5 (.int .u8 0) 1 rfl Try.underlying30 info_u8 rfl (by decide) (by omega) _ b ((v.length : Int) % 256) [.int .u8 ((v.length : Int) % 256)] (fun _ => True) (fun _ => False) rfl rfl rfl (fun _ hk => hk.elim) (fun _ _ => trivial) HO.out HB.out (below_size HB.out) (by omega) ?_; intro v1 w1 ho hb hg hat; clear hg hat; have HO1 := Aside0.mk ho; have HB1 := Aside0.mk hb; clear ho hb)
  go_loopg [0, 17] v.length (fun gg v0 s17 wr => ∃ kk : Nat, kk ≤ v.length ∧ v.length - kk ≤ gg ∧ s17 = .int .i64 kk ∧ Aside0 (Kd.R (Kd.int .u8) 5 wr w0.heap.size (fun _ => True) v0 (b ++ ((v.length : Int) % 256) :: vecT (v.take kk))) ∧ Aside0 (Below w0.heap.size w0 wr))
  case atStart => exact ⟨0, by omega, by omega, rfl, HO1, HB1⟩
  case round =>
    obtain ⟨kk, hkk, hg, rfl, HOk, HBk⟩ := hrel
    by_cases hlt : kk < v.length
    · have hltz : (kk : Int) < (v.length : Int) := by omega
      obtain ⟨ad, rfl, q⟩ := C_byte' HR.out kk hlt
      replace q := (HBk.out.cell (World.block_lt_of_cell? w0 _ q)).trans q
      have hx := HV.out _ (List.getElem_mem hlt)
      have hll : (b ++ ((v.length : Int) % 256) :: vecT (v.take kk)).length ≤ 10000 := by
        rw [List.length_append, List.length_cons, vecT_len, List.length_take]; omega
      have hn := HOk.out
      have HNX := Aside0.mk (show (b ++ ((v.length : Int) % 256) :: vecT (v.take kk)) ++ numB v[kk] = b ++ ((v.length : Int) % 256) :: vecT (v.take (kk + 1)) by
        rw [List.take_succ_eq_append_getElem hlt, show vecT (v.take kk ++ [v[kk]]) = vecT (v.take kk) ++ numB v[kk] by unfold vecT; rw [List.map_append, List.flatten_append]; simp]
        simp only [List.append_assoc, List.cons_append])
      rw [getD_of_lt v kk 0 hlt] at q
      generalize v[kk] = x at *
      generalize b ++ ((v.length : Int) % 256) :: vecT (v.take kk) = L at *
      obtain ⟨A', c', rfl, hl', hC'⟩ := Kd.R_reads hn
      have HCALL := Aside0.mk (P.codec_number.calls 20 A' c' L x (L ++ numB x) wr hC' hl' (number_is L x hx.1 hx.2 (by omega)))
      clear hn hC' hl' hx
      obtain ⟨wo, rfl⟩ : ∃ wo, wo = wr := ⟨_, rfl⟩
      go_wp2_with (go_at_fn 67; refine HCALL.out.mono ?_; rintro e w2 ⟨v2, rfl, ho2, hb2⟩; have HO2 := Aside0.mk (Kd.R_lower ho2 (below_size HBk.out)); have HB2 := Aside0.mk (below_step HBk.out hb2); clear ho2 hb2)
      rw [HNX.out] at HO2
      go_roundg (v.length - (kk + 1))
      case measure => omega
      case rel => exact ⟨kk + 1, by omega, by omega, by go_num, HO2, HB2⟩
    · have hltz : ¬ (kk : Int) < (v.length : Int) := by omega
      have hn := HOk.out
      rw [List.take_of_length_le (by omega)] at hn
      have HN := Aside0.mk hn
      clear hn
      go_wp2_with fail
      go_returns
      exact ⟨_, rfl, HN.out, HBk.out⟩

theorem right_range {v : List Int} (h : right v = true) : (1 ≤ v.length ∧ v.length ≤ 4) ∧ ∀ x ∈ v, -2147483648 ≤ x ∧ x ≤ 2147483647 := by
  unfold right at h
  rw [Bool.and_eq_true] at h
  refine ⟨of_decide_eq_true h.1, fun x hx => ?_⟩
  have := List.all_eq_true.1 h.2 x hx
  unfold okC at this
  have := of_decide_eq_true this
  omega
def codec_Vec.f (v : List Int) : Option (List Int × Int) := some (if right v = true then (vecB v, 0) else ([], 150))

set_option maxHeartbeats 4000000 in
set_option maxRecDepth 100000 in
theorem codec_Vec.calls (A0 : Option Addr) (c0 : Nat) (l0 : List Int) (r1 : List Int) (r2 : Int) (w : World) (hr : Kd.C (Kd.int .i32) w A0 l0.length l0) (hc : l0.length ≤ c0) (h : codec_Vec.f l0 = some (r1, r2)) :
    Calls Try.prog 36 #[.slice A0 l0.length c0] w fun e w' => ∃ v0_ : Value, e = .returned (.tuple #[v0_, .int .i64 r2]) ∧ Kd.R (Kd.int .u8) 5 w' w.heap.size (fun _ => True) v0_ r1 ∧ Below w.heap.size w w' := by
  replace h := Option.some.inj h
  have HR := Aside0.mk hr
  have HC := Aside0.mk hc
  have HCK := Aside0.mk (vec_Check.calls A0 c0 l0 (checkV l0) w hr hc rfl)
  clear hr hc
  by_cases hrt : right l0 = true
  · rw [if_pos hrt] at h
    obtain ⟨rfl, rfl⟩ := Prod.mk.inj h
    obtain ⟨⟨h1, h4⟩, hx⟩ := right_range hrt
    rw [show checkV l0 = 0 by unfold checkV; rw [if_pos hrt]] at HCK
    have HX := Aside0.mk hx
    clear hrt h hx
    go_enter Try.func36, Try.ntmps36
    go_wp2_with fail
    refine HCK.out.mono ?_
    rintro e w1 ⟨rfl, hd⟩
    have HB := Aside0.mk hd.below
    clear hd
    go_wp2_with fail
    refine (laid_go w w1 none 0 [] A0 c0 l0 HB.out (Kd.R_nil _ _ _ _ _) HR.out HC.out HX.out (by simp) (by omega)).mono ?_
    rintro e w2 ⟨v2, rfl, ho2, hb2⟩
    have HO2 := Aside0.mk ho2
    have HB2 := Aside0.mk hb2
    clear ho2 hb2
    go_wp2_with fail
    go_returns
    exact ⟨_, rfl, HO2.out, HB2.out⟩
  · rw [if_neg hrt] at h
    obtain ⟨rfl, rfl⟩ := Prod.mk.inj h
    rw [show checkV l0 = 150 by unfold checkV; rw [if_neg hrt]] at HCK
    clear hrt h
    go_enter Try.func36, Try.ntmps36
    go_wp2_with fail
    refine HCK.out.mono ?_
    rintro e w1 ⟨rfl, hd⟩
    have HB := Aside0.mk hd.below
    clear hd
    go_wp2_with fail
    go_returns
    exact ⟨_, rfl, Kd.R_nil _ _ _ _ _, HB.out⟩

/-- A row's bytes. -/
def rowB (id : Int) (v : List Int) : List Int := putBytes 8 id ++ vecB v
def codec_Row.f (id : Int) (v : List Int) : Option (List Int × Int) := some (if right v = true then (rowB id v, 0) else ([], 170))

set_option maxHeartbeats 1000000 in
set_option maxRecDepth 100000 in
theorem codec_Row.calls (a0_0 : Int) (A0_1 : Option Addr) (c0_1 : Nat) (l0_1 : List Int) (r1 : List Int) (r2 : Int) (w : World) (hr : Kd.C (Kd.int .i32) w A0_1 l0_1.length l0_1) (hc : l0_1.length ≤ c0_1) (h : codec_Row.f a0_0 l0_1 = some (r1, r2)) :
    Calls Try.prog 23 #[.agg #[.int .u64 a0_0, .slice A0_1 l0_1.length c0_1]] w fun e w' => ∃ v0_ : Value, e = .returned (.tuple #[v0_, .int .i64 r2]) ∧ Kd.R (Kd.int .u8) 5 w' w.heap.size (fun _ => True) v0_ r1 ∧ Below w.heap.size w w' := by
  replace h := Option.some.inj h
  have HR := Aside0.mk hr
  have HC := Aside0.mk hc
  obtain ⟨w1, hw1⟩ : ∃ w1, w1 = w.alloc (.cells #[.int .u64 a0_0, .slice A0_1 l0_1.length c0_1] 42) := ⟨_, rfl⟩
  have HB1 := Aside0.mk (show Below w.heap.size w w1 by rw [hw1]; exact (Below.refl _ _).alloc (Nat.le_refl _) _)
  have hblk : w1.heap[w.heap.size]? = some (.cells #[.int .u64 a0_0, .slice A0_1 l0_1.length c0_1] 42 (0, 0)) := by rw [hw1]; exact heap_alloc_new w _
  have HCK := Aside0.mk (P.codec_CheckRow.calls a0_0 A0_1 c0_1 l0_1 (if right l0_1 = true then 0 else 170) w1 (Kd.C_below hr HB1.out) hc (by
    unfold P.codec_CheckRow.f vec_Check.f checkV
    by_cases h : right l0_1 = true
    · rw [if_pos h, if_pos h]; rfl
    · rw [if_neg h, if_neg h]; rfl))
  have q0 : w1.cell? ⟨w.heap.size, 0, none⟩ = some (.int .u64 a0_0) := (blk_cell hblk 0).trans rfl
  have q1 : w1.cell? ⟨w.heap.size, 1, none⟩ = some (.slice A0_1 l0_1.length c0_1) := (blk_cell hblk 1).trans rfl
  have HBLK := Aside0.mk hblk
  have HW := Aside0.mk hw1
  clear hr hc hblk hw1
  go_enter Try.func23, Try.ntmps23
  go_upto_region 1 with (fail)
  rw [← HW.out]
  by_cases hrt : right l0_1 = true
  case neg =>
    rw [if_neg hrt] at h HCK
    obtain ⟨rfl, rfl⟩ := Prod.mk.inj h
    clear hrt h
    go_wp2_with fail
    refine HCK.out.mono ?_
    rintro e w2 ⟨rfl, hd⟩
    have HB := Aside0.mk (below_step HB1.out hd)
    clear hd
    go_wp2_with fail
    go_returns
    exact ⟨_, rfl, Kd.R_nil _ _ _ _ _, HB.out⟩
  rw [if_pos hrt] at h HCK
  obtain ⟨rfl, rfl⟩ := Prod.mk.inj h
  obtain ⟨⟨h1, h4⟩, hx⟩ := right_range hrt
  have HX := Aside0.mk hx
  clear hrt h hx
  go_wp2_with fail
  refine HCK.out.mono ?_
  rintro e w2 ⟨rfl, hd⟩
  have HB2 := Aside0.mk (below_step HB1.out hd)
  have HBL2 := Aside0.mk (blk_below HBLK.out hd)
  clear hd q0 q1
  have q0 : w2.cell? ⟨w.heap.size, 0, none⟩ = some (.int .u64 a0_0) := (blk_cell HBL2.out 0).trans rfl
  have q1 : w2.cell? ⟨w.heap.size, 1, none⟩ = some (.slice A0_1 l0_1.length c0_1) := (blk_cell HBL2.out 1).trans rfl
  obtain ⟨pb, hpb⟩ : ∃ pb, pb = putBytes 8 a0_0 := ⟨_, rfl⟩
  have HPUT := Aside0.mk (show P.field_Put.f 20 [] 8 a0_0 = some pb by rw [put_is [] 8 a0_0 20 (by omega) (by decide), List.nil_append, hpb])
  have HPB := Aside0.mk hpb
  have HPL := Aside0.mk (show pb.length = 8 by rw [hpb, putBytes_length]; decide)
  clear hpb
  go_upto_region 4 with (fail)
  go_region_with (first
    | (go_at_call 57; refine (P.field_Put.calls 20 none 0 [] 8 a0_0 pb _ (Kd.C_nil _ _) (Nat.le_refl _) HPUT.out).mono ?_; rintro e w4 ⟨v4, rfl, ho4, hb4⟩; have HB4 := Aside0.mk (below_step (show Below w.heap.size w _ by repeat (first | exact HB2.out | apply below_drew1 | apply pw_below_drewN)) hb4); have HBL4 : Aside0 (w4.heap[w.heap.size]? = some (.cells #[.int .u64 a0_0, .slice A0_1 l0_1.length c0_1] 42 (0, 0))) := ⟨(hb4.block _ (by have h2 := blk_lt HBL2.out; (try simp); omega)).trans HBL2.out⟩; have HO4 := Aside0.mk (Kd.R_lower ho4 (by have := HB2.out.size; simpa using this)); obtain ⟨A4, c4, ev, _, _⟩ := Kd.R_reads ho4; subst ev; have q0 : w4.cell? ⟨w.heap.size, 0, none⟩ = some (.int .u64 a0_0) := (blk_cell HBL4.out 0).trans rfl; have q1 : w4.cell? ⟨w.heap.size, 1, none⟩ = some (.slice A0_1 l0_1.length c0_1) := (blk_cell HBL4.out 1).trans rfl; clear ho4 hb4)
    | (go_at_call 66; refine (laid_go w _ A4 c4 pb A0_1 c0_1 l0_1 (by repeat (first | exact HB4.out | apply below_drew1 | apply pw_below_drewN)) (by repeat (first | exact HO4.out | apply Kd.R_drew | apply Kd.R_drewN)) HR.out HC.out HX.out (by rw [HPL.out]; decide) (by omega)).mono ?_; rintro e w5 ⟨v5, rfl, ho5, hb5⟩; have HO5 := Aside0.mk ho5; have HB5 := Aside0.mk hb5; clear ho5 hb5))
  all_goals (go_wp2_with fail)
  all_goals go_returns
  all_goals exact ⟨_, rfl, by rw [rowB, ← HPB.out]; exact HO5.out, HB5.out⟩

/-- May a version be? -/
def rightVer (b e : Int) (v : List Int) : Bool := right v && decide (1 ≤ b ∧ b ≤ 1099511627776) && decide (e = 0 ∨ (b < e ∧ e ≤ 1099511627776))
theorem checkver_is (b e : Int) (v : List Int) : P.codec_CheckVersion.f b e v = some (if rightVer b e v = true then 0 else 171) := by
  unfold P.codec_CheckVersion.f vec_Check.f checkV rightVer
  cases hr : right v with
  | false =>
    simp only [Bool.false_and]
    split
    · rfl
    · split
      · rfl
      · rfl
  | true =>
    simp only [Bool.true_and, if_true, Option.bind_some]
    by_cases h1 : b < 1
    · rw [decide_eq_false (show ¬ (1 ≤ b ∧ b ≤ 1099511627776) by omega), if_pos h1]
      simp [h1]
    · by_cases h2 : b > 1099511627776
      · rw [decide_eq_false (show ¬ (1 ≤ b ∧ b ≤ 1099511627776) by omega)]
        simp [h1, h2]
      · rw [decide_eq_true (show 1 ≤ b ∧ b ≤ 1099511627776 by omega)]
        by_cases h3 : e = 0
        · simp [h1, h2, h3]
        · by_cases h4 : e > b
          · by_cases h5 : e ≤ 1099511627776
            · rw [decide_eq_true (show e = 0 ∨ (b < e ∧ e ≤ 1099511627776) by omega)]
              simp [h1, h2, h3, h4, h5]
            · rw [decide_eq_false (show ¬ (e = 0 ∨ (b < e ∧ e ≤ 1099511627776)) by omega)]
              simp [h1, h2, h3, h4, h5]
          · rw [decide_eq_false (show ¬ (e = 0 ∨ (b < e ∧ e ≤ 1099511627776)) by omega)]
            simp [h1, h2, h3, h4]
/-- A version's bytes. -/
def verB (b e : Int) (v : List Int) : List Int := (putBytes 8 b ++ putBytes 8 e) ++ vecB v
def codec_Version.f (b e : Int) (v : List Int) : Option (List Int × Int) := some (if rightVer b e v = true then (verB b e v, 0) else ([], 171))

set_option maxHeartbeats 8000000 in
set_option maxRecDepth 100000 in
theorem codec_Version.calls (a0_0 a0_1 : Int) (A0_2 : Option Addr) (c0_2 : Nat) (l0_2 : List Int) (r1 : List Int) (r2 : Int) (w : World) (hr : Kd.C (Kd.int .i32) w A0_2 l0_2.length l0_2) (hc : l0_2.length ≤ c0_2) (h : codec_Version.f a0_0 a0_1 l0_2 = some (r1, r2)) :
    Calls Try.prog 25 #[.agg #[.int .u64 a0_0, .int .u64 a0_1, .slice A0_2 l0_2.length c0_2]] w fun e w' => ∃ v0_ : Value, e = .returned (.tuple #[v0_, .int .i64 r2]) ∧ Kd.R (Kd.int .u8) 5 w' w.heap.size (fun _ => True) v0_ r1 ∧ Below w.heap.size w w' := by
  replace h := Option.some.inj h
  have HR := Aside0.mk hr
  have HC := Aside0.mk hc
  obtain ⟨w1, hw1⟩ : ∃ w1, w1 = w.alloc (.cells #[.int .u64 a0_0, .int .u64 a0_1, .slice A0_2 l0_2.length c0_2] 44) := ⟨_, rfl⟩
  have HB1 := Aside0.mk (show Below w.heap.size w w1 by rw [hw1]; exact (Below.refl _ _).alloc (Nat.le_refl _) _)
  have hblk : w1.heap[w.heap.size]? = some (.cells #[.int .u64 a0_0, .int .u64 a0_1, .slice A0_2 l0_2.length c0_2] 44 (0, 0)) := by rw [hw1]; exact heap_alloc_new w _
  have HCK := Aside0.mk (P.codec_CheckVersion.calls a0_0 a0_1 A0_2 c0_2 l0_2 (if rightVer a0_0 a0_1 l0_2 = true then 0 else 171) w1 (Kd.C_below hr HB1.out) hc (checkver_is _ _ _))
  have q0 : w1.cell? ⟨w.heap.size, 0, none⟩ = some (.int .u64 a0_0) := (blk_cell hblk 0).trans rfl
  have q1 : w1.cell? ⟨w.heap.size, 1, none⟩ = some (.int .u64 a0_1) := (blk_cell hblk 1).trans rfl
  have q2 : w1.cell? ⟨w.heap.size, 2, none⟩ = some (.slice A0_2 l0_2.length c0_2) := (blk_cell hblk 2).trans rfl
  have HBLK := Aside0.mk hblk
  have HW := Aside0.mk hw1
  clear hr hc hblk hw1
  go_enter Try.func25, Try.ntmps25
  go_upto_region 1 with (fail)
  rw [← HW.out]
  by_cases hrt : rightVer a0_0 a0_1 l0_2 = true
  case neg =>
    rw [if_neg hrt] at h HCK
    obtain ⟨rfl, rfl⟩ := Prod.mk.inj h
    clear hrt h
    go_wp2_with fail
    refine HCK.out.mono ?_
    rintro e w2 ⟨rfl, hd⟩
    have HB := Aside0.mk (below_step HB1.out hd)
    clear hd
    go_wp2_with fail
    go_returns
    exact ⟨_, rfl, Kd.R_nil _ _ _ _ _, HB.out⟩
  rw [if_pos hrt] at h HCK
  obtain ⟨rfl, rfl⟩ := Prod.mk.inj h
  obtain ⟨⟨h1, h4⟩, hx⟩ := right_range (v := l0_2) (by unfold rightVer at hrt; rw [Bool.and_eq_true, Bool.and_eq_true] at hrt; exact hrt.1.1)
  have HX := Aside0.mk hx
  clear hrt h hx
  go_wp2_with fail
  refine HCK.out.mono ?_
  rintro e w2 ⟨rfl, hd⟩
  have HB2 := Aside0.mk (below_step HB1.out hd)
  have HBL2 := Aside0.mk (blk_below HBLK.out hd)
  clear hd q0 q1 q2
  have q0 : w2.cell? ⟨w.heap.size, 0, none⟩ = some (.int .u64 a0_0) := (blk_cell HBL2.out 0).trans rfl
  have q1 : w2.cell? ⟨w.heap.size, 1, none⟩ = some (.int .u64 a0_1) := (blk_cell HBL2.out 1).trans rfl
  have q2 : w2.cell? ⟨w.heap.size, 2, none⟩ = some (.slice A0_2 l0_2.length c0_2) := (blk_cell HBL2.out 2).trans rfl
  obtain ⟨pb, hpb⟩ : ∃ pb, pb = putBytes 8 a0_0 := ⟨_, rfl⟩
  obtain ⟨pc, hpc⟩ : ∃ pc, pc = putBytes 8 a0_0 ++ putBytes 8 a0_1 := ⟨_, rfl⟩
  have HPUT := Aside0.mk (show P.field_Put.f 20 [] 8 a0_0 = some pb by rw [put_is [] 8 a0_0 20 (by omega) (by decide), List.nil_append, hpb])
  have hpl : pb.length = 8 := by rw [hpb, putBytes_length]; decide
  have HPUT2 := Aside0.mk (show P.field_Put.f 20 pb 8 a0_1 = some pc by rw [put_is pb 8 a0_1 20 (by omega) (by rw [hpl]; decide), hpc, hpb])
  have HPC := Aside0.mk hpc
  have HPL := Aside0.mk (show pc.length = 16 by rw [hpc, List.length_append, putBytes_length, putBytes_length]; decide)
  clear hpb hpc hpl
  go_upto_region 4 with (fail)
  go_region_with (first
    | (go_at_call 57; refine (P.field_Put.calls 20 A4 c4 pb 8 a0_1 pc _ (by repeat (first | exact HC4.out | apply Kd.C_drewN)) HL4.out HPUT2.out).mono ?_; rintro e w6 ⟨v6, rfl, ho6, hb6⟩; have HB6 := Aside0.mk (below_step (show Below w.heap.size w _ by repeat (first | exact HB4.out | apply below_drew1 | apply pw_below_drewN)) hb6); have HBL6 : Aside0 (w6.heap[w.heap.size]? = some (.cells #[.int .u64 a0_0, .int .u64 a0_1, .slice A0_2 l0_2.length c0_2] 44 (0, 0))) := ⟨(hb6.block _ (by have h2 := blk_lt HBL4.out; (try simp); omega)).trans HBL4.out⟩; have HO6 := Aside0.mk (Kd.R_lower ho6 (by have := HB4.out.size; simpa using this)); obtain ⟨A6, c6, ev, _, _⟩ := Kd.R_reads ho6; subst ev; have q0 : w6.cell? ⟨w.heap.size, 0, none⟩ = some (.int .u64 a0_0) := (blk_cell HBL6.out 0).trans rfl; have q1 : w6.cell? ⟨w.heap.size, 1, none⟩ = some (.int .u64 a0_1) := (blk_cell HBL6.out 1).trans rfl; have q2 : w6.cell? ⟨w.heap.size, 2, none⟩ = some (.slice A0_2 l0_2.length c0_2) := (blk_cell HBL6.out 2).trans rfl; clear ho6 hb6)
    | (go_at_call 57; refine (P.field_Put.calls 20 none 0 [] 8 a0_0 pb _ (Kd.C_nil _ _) (Nat.le_refl _) HPUT.out).mono ?_; rintro e w4 ⟨v4, rfl, ho4, hb4⟩; have HB4 := Aside0.mk (below_step (show Below w.heap.size w _ by repeat (first | exact HB2.out | apply below_drew1 | apply pw_below_drewN)) hb4); have HBL4 : Aside0 (w4.heap[w.heap.size]? = some (.cells #[.int .u64 a0_0, .int .u64 a0_1, .slice A0_2 l0_2.length c0_2] 44 (0, 0))) := ⟨(hb4.block _ (by have h2 := blk_lt HBL2.out; (try simp); omega)).trans HBL2.out⟩; obtain ⟨A4, c4, ev, hl4, hC4⟩ := Kd.R_reads ho4; subst ev; have HL4 := Aside0.mk hl4; have HC4 := Aside0.mk hC4; have q0 : w4.cell? ⟨w.heap.size, 0, none⟩ = some (.int .u64 a0_0) := (blk_cell HBL4.out 0).trans rfl; have q1 : w4.cell? ⟨w.heap.size, 1, none⟩ = some (.int .u64 a0_1) := (blk_cell HBL4.out 1).trans rfl; have q2 : w4.cell? ⟨w.heap.size, 2, none⟩ = some (.slice A0_2 l0_2.length c0_2) := (blk_cell HBL4.out 2).trans rfl; clear ho4 hb4 hl4 hC4)
    | (go_at_call 66; refine (laid_go w _ A6 c6 pc A0_2 c0_2 l0_2 (by repeat (first | exact HB6.out | apply below_drew1 | apply pw_below_drewN)) (by repeat (first | exact HO6.out | apply Kd.R_drew | apply Kd.R_drewN)) HR.out HC.out HX.out (by rw [HPL.out]; decide) (by omega)).mono ?_; rintro e w5 ⟨v5, rfl, ho5, hb5⟩; have HO5 := Aside0.mk ho5; have HB5 := Aside0.mk hb5; clear ho5 hb5))
  all_goals (go_wp2_with fail)
  all_goals go_returns
  all_goals exact ⟨_, rfl, by rw [verB, ← HPC.out]; exact HO5.out, HB5.out⟩

end Go.Proofs.Ytngjaaldidmgjaa.G
