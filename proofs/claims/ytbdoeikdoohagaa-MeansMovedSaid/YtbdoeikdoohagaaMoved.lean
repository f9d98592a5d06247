/- quiverlaw12.MeansMoved answers true, for every row of vectors, draws and vector by which they are moved. -/
import Derived.Test.YtbdoeikdoohagaaLw
namespace Go.Proofs.Ytbdoeikdoohagaa.G
open Go.Shelf Go.RowKit Go.Proofs.YtbdoeikdoohagaaW.PrintWords Go.Proofs.YtbdoeikdoohagaaW.PrintLast Go.Proofs.YtbdoeikdoohagaaW.PrintMore
set_option linter.unusedVariables false
set_option linter.unusedSimpArgs false

theorem sh_snoc {b v : List Int} (h : v.length ≤ b.length) (j : Nat) (hj : j < v.length) : (sh b v).take (j + 1) = (sh b v).take j ++ [v.getD j 0 + b.getD j 0] := by
  have hl : j < (sh b v).length := by rw [sh_len h]; exact hj
  rw [List.take_succ_eq_append_getElem hl, ← getD_of_lt _ j 0 hl, sh_at h j hj]
theorem mv_l1 (b v : List Int) (l acc : List (List Int)) (i : Nat) (hv : right v = true) (hb : v.length ≤ b.length) (hbb : ∀ j, -2147483648 ≤ b.getD j 0 ∧ b.getD j 0 ≤ 2147483647) (ha : acc.length ≤ 1000) (hi : i ≤ 1000000) : ∀ (d j k : Nat), j + d = v.length →
    P.quiverlaw12_moved.l1 (k + 1 + d) b acc v ((sh b v).take j) l (l.length : Int) (i : Int) (v.length : Int) (j : Int) = if ((sh b v).drop j).all okC = true then P.quiverlaw12_moved.l0 k b (acc ++ [sh b v]) l (l.length : Int) ((i + 1 : Nat) : Int) else some ([], false)
  | 0, j, k, h => by
    show P.quiverlaw12_moved.l1 (k + 1) _ _ _ _ _ _ _ _ _ = _
    rw [P.quiverlaw12_moved.l1, if_neg (by omega), if_pos (by omega), List.drop_eq_nil_of_le (by rw [sh_len hb]; omega), List.take_of_length_le (by rw [sh_len hb]; omega), List.all_nil, if_pos rfl, w64 (by omega) (by omega), show ((i : Int) + 1) = ((i + 1 : Nat) : Int) by omega]
  | d + 1, j, k, h => by
    have hlen := right_len v hv
    have hc := right_comp v hv j
    have hbj := hbb j
    have hl : j < (sh b v).length := by rw [sh_len hb]; omega
    have ih := mv_l1 b v l acc i hv hb hbb ha hi d (j + 1) k (by omega)
    rw [sh_snoc hb j (by omega)] at ih
    show P.quiverlaw12_moved.l1 ((k + 1 + d) + 1) _ _ _ _ _ _ _ _ _ = _
    rw [P.quiverlaw12_moved.l1, if_pos (by omega), if_pos (by omega), if_pos (by omega), if_pos (by omega), rd_nat, rd_nat, drop_at (sh b v) j 0 hl, sh_at hb j (by omega), List.all_cons]
    generalize v.getD j 0 = x at *
    generalize b.getD j 0 = y at *
    rw [w64 (i := x) (by omega) (by omega), w64 (i := y) (by omega) (by omega), w64 (i := x + y) (by omega) (by omega)]
    by_cases h1 : x + y < -1073741823
    · have e : okC (x + y) = false := by unfold okC; exact decide_eq_false (by omega)
      rw [if_pos h1, e, Bool.false_and, if_neg (by decide)]
    · by_cases h2 : x + y > 1073741823
      · have e : okC (x + y) = false := by unfold okC; exact decide_eq_false (by omega)
        rw [if_neg h1, if_pos h2, e, Bool.false_and, if_neg (by decide)]
      · have e : okC (x + y) = true := by unfold okC; exact decide_eq_true (by omega)
        rw [if_neg h1, if_neg h2, if_pos (by rw [List.length_take]; omega), w32 (by omega) (by omega), w64 (i := (j : Int) + 1) (by omega) (by omega), show ((j : Int) + 1) = ((j + 1 : Nat) : Int) by omega, ih, e, Bool.true_and]
theorem mv_l0 (b : List Int) (l : List (List Int)) (hl : l.length ≤ 1000) (hv : ∀ v ∈ l, right v = true ∧ v.length ≤ b.length) (hbb : ∀ j, -2147483648 ≤ b.getD j 0 ∧ b.getD j 0 ≤ 2147483647) : ∀ (d i k : Nat), i + d = l.length → d * 7 < k →
    P.quiverlaw12_moved.l0 k b ((l.take i).map (sh b)) l (l.length : Int) (i : Int) = if (l.drop i).all (fun v => (sh b v).all okC) = true then some (l.map (sh b), true) else some ([], false)
  | 0, i, k + 1, h, _ => by
    rw [P.quiverlaw12_moved.l0, if_neg (by omega), List.drop_eq_nil_of_le (by omega), List.all_nil, if_pos rfl, List.take_of_length_le (by omega)]
  | d + 1, i, k + 1, h, hk => by
    have hm : l.getD i [] ∈ l := by rw [getD_of_lt l i [] (by omega)]; exact List.getElem_mem (by omega)
    obtain ⟨h1, h2⟩ := hv _ hm
    have hlen := right_len _ h1
    obtain ⟨k', rfl⟩ : ∃ k', k = k' + 1 + (l.getD i []).length := ⟨k - 1 - (l.getD i []).length, by omega⟩
    have hs := mv_l1 b (l.getD i []) l ((l.take i).map (sh b)) i h1 h2 hbb (by rw [List.length_map, List.length_take]; omega) (by omega) (l.getD i []).length 0 k' (by omega)
    rw [List.take_zero, List.drop_zero, show (((0 : Nat) : Int)) = 0 from rfl] at hs
    have ih := mv_l0 b l hl hv hbb d (i + 1) k' (by omega) (by omega)
    rw [take_snocR l i (by omega), List.map_append] at ih
    rw [P.quiverlaw12_moved.l0, if_pos (by omega), if_pos (by omega), if_pos (by omega), rdL_nat, hs, drop_at l i [] (by omega), List.all_cons]
    by_cases e : (sh b (l.getD i [])).all okC = true
    · rw [if_pos e, e, Bool.true_and]; exact ih
    · rw [if_neg e, if_neg (by rw [Bool.and_eq_true]; exact fun h => e h.1)]
def movedR (b : List Int) (l : List (List Int)) : List (List Int) × Bool := if l.all (fun v => (sh b v).all okC) = true then (l.map (sh b), true) else ([], false)
theorem moved_is (b : List Int) (l : List (List Int)) (hl : l.length ≤ 1000) (hv : ∀ v ∈ l, right v = true ∧ v.length ≤ b.length) (hbb : ∀ j, -2147483648 ≤ b.getD j 0 ∧ b.getD j 0 ≤ 2147483647) : P.quiverlaw12_moved.f (l.length * 7 + 1) l b = some ((movedR b l).1, (movedR b l).2) := by
  unfold P.quiverlaw12_moved.f movedR
  have := mv_l0 b l hl hv hbb l.length 0 (l.length * 7 + 1) (by omega) (by omega)
  rw [List.take_zero, List.drop_zero] at this
  refine Eq.trans this ?_
  split <;> rfl
theorem moved_go (A : Option Addr) (c : Nat) (l : List (List Int)) (B : Option Addr) (d : Nat) (b : List Int) (w : World) (hr : Kd.C kR w A l.length l) (hc : l.length ≤ c) (hr' : Kd.C (Kd.int .i32) w B b.length b) (hc' : b.length ≤ d) (hl : l.length ≤ 1000) (hv : ∀ v ∈ l, right v = true ∧ v.length ≤ b.length) (hbb : ∀ j, -2147483648 ≤ b.getD j 0 ∧ b.getD j 0 ≤ 2147483647) :
    Calls Try.prog 52 #[.slice A l.length c, .slice B b.length d] w fun e w' => ∃ A' c', e = .returned (.tuple #[.slice A' (movedR b l).1.length c', .bool (movedR b l).2]) ∧ (movedR b l).1.length ≤ c' ∧ Kd.C kR w' A' (movedR b l).1.length (movedR b l).1 ∧ Below w.heap.size w w' := by
  refine (P.quiverlaw12_moved.calls _ A c l B d b _ _ w hr hc hr' hc' (moved_is b l hl hv hbb)).mono ?_
  rintro e w' ⟨v, rfl, ho, hb⟩
  obtain ⟨A', c', rfl, hl', hC'⟩ := Kd.S_reads ho
  exact ⟨A', c', rfl, hl', hC', hb⟩
theorem moved_ok {d : Nat} {b : List Int} {l : List (List Int)} (hl : okV d l) (hb : d ≤ b.length) (h : l.all (fun v => (sh b v).all okC) = true) : okV d (l.map (sh b)) := by
  intro x hx
  obtain ⟨v, hv, rfl⟩ := List.mem_map.1 hx
  have h1 := hl v hv
  have h2 := right_len v h1.1
  have h3 : (sh b v).length = d := by rw [sh_len (by omega), h1.2]
  refine ⟨?_, h3⟩
  unfold right
  rw [Bool.and_eq_true, h3]
  exact ⟨decide_eq_true (by omega), List.all_eq_true.1 h v hv⟩
theorem moved_of {d : Nat} {b : List Int} {l : List (List Int)} (h : okV d (l.map (sh b))) : movedR b l = (l.map (sh b), true) := by
  unfold movedR
  rw [if_pos (List.all_eq_true.2 fun v hv => right_ok (h (sh b v) (List.mem_map.2 ⟨v, hv, rfl⟩)).1)]
/-- What the moved vectors are trained to. -/
theorem moved_train {d : Nat} {b : List Int} {l : List (List Int)} {ds : List Int} (h1 : 1 ≤ l.length) (h2 : l.length ≤ 96) (hd : drawsOk ds = true) (hl : okV d l) (hb : d ≤ b.length) (hls : okV d (l.map (sh b))) :
    trainR (l.map (sh b)) ds = ((trainL l 4 (pick l ds)).map (sh b), 0) ∧ movedR b (trainL l 4 (pick l ds)) = ((trainL l 4 (pick l ds)).map (sh b), true) := by
  have hp : pick (l.map (sh b)) ds = (pick l ds).map (sh b) := pick_map l ds (sh b) (by omega)
  have hpo : okV d ((pick l ds).map (sh b)) := by rw [← hp]; exact pick_ok (by rw [List.length_map]; omega) hls
  have ht := sh_train hb hl hls 4 (pick l ds) (pick_ok (by omega) hl) hpo
  have hto : okV d ((trainL l 4 (pick l ds)).map (sh b)) := by rw [← ht]; exact train_ok hls 4 _ hpo
  refine ⟨?_, moved_of hto⟩
  have hs := start_of (l := l.map (sh b)) hd (by rw [List.length_map]; exact h1) (by rw [List.length_map]; exact h2) (err_of_ok hls)
  unfold trainR
  rw [hs, if_pos rfl, hp, ht]

set_option maxHeartbeats 4000000 in
set_option maxRecDepth 100000 in
theorem meansMoved.go (A : Option Addr) (c : Nat) (l : List (List Int)) (B : Option Addr) (d : Nat) (ds : List Int) (E : Option Addr) (f : Nat) (b : List Int) (w : World) (hr : Kd.C kR w A l.length l) (hc : l.length ≤ c) (hr' : Kd.C (Kd.int .i64) w B ds.length ds) (hc' : ds.length ≤ d) (hr2 : Kd.C (Kd.int .i32) w E b.length b) (hc2 : b.length ≤ f) (hbb : ∀ j, -2147483648 ≤ b.getD j 0 ∧ b.getD j 0 ≤ 2147483647) :
    Calls Try.prog 15 #[.slice A l.length c, .slice B ds.length d, .slice E b.length f] w fun e w' => e = .returned (.bool true) ∧ Below w.heap.size w w' := by
  have HR := Aside0.mk hr
  have HC := Aside0.mk hc
  have HR' := Aside0.mk hr'
  have HC' := Aside0.mk hc'
  have HE := Aside0.mk hr2
  have HCE := Aside0.mk hc2
  have HBB := Aside0.mk hbb
  have hml := Kd.C_max hr
  have hml' := Kd.C_max hr'
  have hmb := Kd.C_max hr2
  clear hr hc hr' hc' hr2 hc2 hbb
  go_enter Try.func15, Try.ntmps15
  go_wp2_with fail
  refine (wakes12.calls true _ rfl).mono ?_
  rintro e w1 ⟨rfl, hb1⟩
  have HB1 := Aside0.mk hb1
  clear hb1
  go_wp2_with fail
  refine (few_go A c l 96 96 rfl (by decide) w1 (Kd.C_below HR.out HB1.out) HC.out).mono ?_
  rintro e w2 ⟨A2, c2, rfl, hl2, hC2, hb2⟩
  have hI96 := few_len 96 l
  generalize fewV 96 l = I at *
  have HB2 := Aside0.mk (below_step HB1.out hb2)
  have HI2 := Aside0.mk hC2
  have HL2 := Aside0.mk hl2
  clear hb2 hC2 hl2
  go_wp2_with fail
  refine (some_go B d ds w2 (Kd.C_below HR'.out HB2.out) HC'.out).mono ?_
  rintro e w3 ⟨A3, c3, rfl, hl3, hC3, hb3⟩
  have hD7 : (someV ds).length ≤ 7 := by unfold someV; rw [List.length_take]; omega
  generalize someV ds = D at *
  have HB3 := Aside0.mk (below_step HB2.out hb3)
  have HI3 := Aside0.mk (Kd.C_below HI2.out hb3)
  have HD3 := Aside0.mk hC3
  have HLD := Aside0.mk hl3
  clear hb3 hC3 hl3
  go_wp2_with fail
  refine (train_go A2 c2 I A3 c3 D w3 HI3.out HL2.out HD3.out HLD.out).mono ?_
  rintro e w4 ⟨A4, c4, rfl, hl4, hC4, hb4⟩
  have HB4 := Aside0.mk (below_step HB3.out hb4)
  have HI4 := Aside0.mk (Kd.C_below HI3.out hb4)
  have HD4 := Aside0.mk (Kd.C_below HD3.out hb4)
  have HOK := Aside0.mk (fun h => trainR_ok (l := I) (ds := D) h)
  generalize trainR I D = tt at *
  obtain ⟨t, te⟩ := tt
  simp only at *
  have hmt := Kd.C_max hC4
  have HC4 := Aside0.mk hC4
  have HL4 := Aside0.mk hl4
  clear hb4 hC4 hl4
  by_cases hz : te = 0
  case neg =>
    have e1 : (te != 0) = true := by rw [bne_iff_ne]; exact hz
    clear hz
    go_wp2_with fail
    go_returns
    exact ⟨rfl, HB4.out⟩
  subst hz
  obtain ⟨⟨hd1, hd6⟩, ⟨hi1, hi2⟩, hok, hst, ht, hdr⟩ := HOK.out rfl
  have HOV := Aside0.mk hok
  have HTT := Aside0.mk ht
  have HDR := Aside0.mk hdr
  have htl : t.length = D.length := by rw [ht, train_len, pick_len]
  have HTL := Aside0.mk htl
  have h0z : (0 : Int) < (I.length : Int) := by omega
  obtain ⟨ad, A0, c0, rfl, hcell0, hlc0, hC0⟩ := C_row HI4.out 0 hi1
  rw [add0] at hcell0
  clear hlc0 hC0 hst ht htl hdr hok HOK
  by_cases hlt : (b.length : Int) < ((I.getD 0 []).length : Int)
  · have e2 : decide (b.length < (I.getD 0 []).length) = true := decide_eq_true (by omega)
    generalize (I.getD 0 []).length = n0 at *
    go_wp2_with fail
    go_returns
    exact ⟨rfl, HB4.out⟩
  have e2 : decide (b.length < (I.getD 0 []).length) = false := decide_eq_false (by omega)
  have HLT := Aside0.mk (show (I.getD 0 []).length ≤ b.length by omega)
  have HIV := Aside0.mk (show ∀ v ∈ I, right v = true ∧ v.length ≤ b.length from fun v hv => by have h1 := HOV.out v hv; have h2 := HLT.out; exact ⟨h1.1, by omega⟩)
  have HFR := Aside0.mk (fun h => moved_ok (b := b) HOV.out HLT.out h)
  have HFT := Aside0.mk (fun h => moved_train (b := b) (ds := D) hi1 hi2 HDR.out HOV.out HLT.out h)
  rw [← HTT.out] at HFT
  have HTV := Aside0.mk (show ∀ v ∈ t, right v = true ∧ v.length ≤ b.length from fun v hv => by
    rw [HTT.out] at hv
    have h1 := train_ok HOV.out 4 _ (pick_ok (by omega) HOV.out) v hv
    have h2 := HLT.out
    exact ⟨h1.1, by omega⟩)
  generalize (I.getD 0 []).length = n0 at *
  clear hlt
  go_wp2_with fail
  refine (moved_go (some ad) c2 I E f b w4 HI4.out HL2.out (Kd.C_below HE.out HB4.out) HCE.out (by omega) HIV.out HBB.out).mono ?_
  rintro e w5 ⟨A5, c5, rfl, hl5, hC5, hb5⟩
  have HB5 := Aside0.mk (below_step HB4.out hb5)
  by_cases hall : I.all (fun v => (sh b v).all okC) = true
  case neg =>
    have e3 : movedR b I = ([], false) := by unfold movedR; rw [if_neg hall]
    rw [e3] at hl5 hC5 ⊢
    clear hall e3 hC5 hb5 hcell0
    go_wp2_with fail
    go_returns
    exact ⟨rfl, HB5.out⟩
  have hfo := HFR.out hall
  have e3 := moved_of hfo
  rw [e3] at hl5 hC5 ⊢
  simp only at hl5 hC5 ⊢
  obtain ⟨hft1, hft2⟩ := HFT.out hfo
  have HFT1 := Aside0.mk hft1
  have HFT2 := Aside0.mk hft2
  have hfl : (I.map (sh b)).length = I.length := List.length_map _
  generalize I.map (sh b) = far at *
  have HF5 := Aside0.mk hC5
  have HLF := Aside0.mk hl5
  have HC45 := Aside0.mk (Kd.C_below HC4.out hb5)
  have HD5 := Aside0.mk (Kd.C_below HD4.out hb5)
  have hm5 := Kd.C_max hC5
  have HFL := Aside0.mk hfl
  clear hall e3 hfo hft1 hft2 hl5 hC5 hb5 HFR HFT hcell0 hfl
  go_wp2_with fail
  refine (moved_go A4 c4 t E f b w5 HC45.out HL4.out (Kd.C_below HE.out HB5.out) HCE.out (by have := HTL.out; omega) HTV.out HBB.out).mono ?_
  rintro e w6 ⟨A6, c6, rfl, hl6, hC6, hb6⟩
  rw [HFT2.out] at hl6 hC6 ⊢
  simp only at hl6 hC6 ⊢
  generalize t.map (sh b) = want at *
  have HB6 := Aside0.mk (below_step HB5.out hb6)
  have HF6 := Aside0.mk (Kd.C_below HF5.out hb6)
  have HD6 := Aside0.mk (Kd.C_below HD5.out hb6)
  have HW6 := Aside0.mk hC6
  have HLW := Aside0.mk hl6
  have hm6 := Kd.C_max hC6
  clear hl6 hC6 hb6
  go_wp2_with fail
  refine (train_go A5 c5 far A3 c3 D w6 HF6.out HLF.out HD6.out HLD.out).mono ?_
  rintro e w7 ⟨A7, c7, rfl, hl7, hC7, hb7⟩
  rw [HFT1.out] at hl7 hC7 ⊢
  simp only at hl7 hC7 ⊢
  have HB7 := Aside0.mk (below_step HB6.out hb7)
  have HS := Aside0.mk (same_go A7 c7 want A6 c6 want w7 hC7 hl7 (Kd.C_below HW6.out hb7) HLW.out)
  rw [decide_eq_true rfl] at HS
  clear hl7 hC7 hb7
  go_wp2_with fail
  refine HS.out.mono ?_
  rintro e w8 ⟨rfl, ⟨⟨q, rfl⟩⟩⟩
  have HB8 := Aside0.mk (pw_below_drewN HB7.out q)
  go_wp2_with fail
  go_returns
  exact ⟨rfl, HB8.out⟩

theorem wf_rows {b : List Int} (wb : ∀ x ∈ b, (Lit.int .i32 x).wf = true) (j : Nat) : -2147483648 ≤ b.getD j 0 ∧ b.getD j 0 ≤ 2147483647 := by
  by_cases h : j < b.length
  · have := wb (b.getD j 0) (by rw [getD_of_lt b j 0 h]; exact List.getElem_mem h)
    unfold Lit.wf at this
    rw [Bool.and_eq_true] at this
    have h1 := of_decide_eq_true this.1
    have h2 := of_decide_eq_true this.2
    rw [show IntKind.i32.min = -2147483648 by decide] at h1
    rw [show IntKind.i32.max = 2147483647 by decide] at h2
    exact ⟨h1, h2⟩
  · simp [List.getD_eq_getElem?_getD, List.getElem?_eq_none (show b.length ≤ j by omega)]
theorem meansMoved.walk (A : Option Addr) (c : Nat) (l : List (List Int)) (B : Option Addr) (d : Nat) (ds : List Int) (E : Option Addr) (f : Nat) (b : List Int) (W : World) (hl : l.length ≤ c) (hC : Kd.C (Kd.slice 21 (Kd.int .i32)) W A l.length l) (wl : ∀ x ∈ l, ∀ y ∈ x, (Lit.int .i32 y).wf = true) (hd : ds.length ≤ d) (hD : Kd.C (Kd.int .i64) W B ds.length ds) (wd : ∀ x ∈ ds, (Lit.int .i64 x).wf = true) (hf : b.length ≤ f) (hE : Kd.C (Kd.int .i32) W E b.length b) (wb : ∀ x ∈ b, (Lit.int .i32 x).wf = true) :
    Calls Try.prog 15 #[.slice A l.length c, .slice B ds.length d, .slice E b.length f] W fun e W' => e = .returned (.bool true) ∧ Below W.heap.size W W' :=
  meansMoved.go A c l B d ds E f b W hC hl hD hd hE hf (wf_rows wb)

end Go.Proofs.Ytbdoeikdoohagaa.G
