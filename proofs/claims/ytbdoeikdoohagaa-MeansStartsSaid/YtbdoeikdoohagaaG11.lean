/- Contract of vec.Nearest. -/
import Derived.Test.YtbdoeikdoohagaaG4
import Derived.Test.YtbdoeikdoohagaaG5M
namespace Go.Proofs.Ytbdoeikdoohagaa.G
open Go.Shelf Go.RowKit Go.Proofs.YtbdoeikdoohagaaW.PrintWords Go.Proofs.YtbdoeikdoohagaaW.PrintLast Go.Proofs.YtbdoeikdoohagaaW.PrintMore
set_option linter.unusedVariables false
set_option linter.unusedSimpArgs false

theorem info_row : (Try.prog.info? 25).map (fun i => (i.zero, i.size, i.bytes)) = some (some (.slice none 0 0), 1, 24) := by kernel_rfl

/-- The best of the first k vectors: its place, its distance. -/
def nst (l : List (List Int)) (v : List Int) : Nat → Int × Int
  | 0 => (0, distV (l.getD 0 []) v)
  | k + 1 => if distV (l.getD k []) v < (nst l v k).2 ∨ (distV (l.getD k []) v = (nst l v k).2 ∧ (k : Int) < (nst l v k).1) then ((k : Int), distV (l.getD k []) v) else nst l v k
def nearR (l : List (List Int)) (v : List Int) : Int × Int := if l.length = 0 then (0, 4) else if allErr (v :: l) = 0 then ((nst l v l.length).1, 0) else (0, allErr (v :: l))
def vec_Nearest.f (l : List (List Int)) (v : List Int) : Option (Int × Int) := if l.length ≤ 1000000 then some (nearR l v) else none

theorem nst_range (l : List (List Int)) (v : List Int) : ∀ k, 0 ≤ (nst l v k).1 ∧ (nst l v k).1 ≤ k
  | 0 => ⟨Int.le_refl _, Int.le_refl _⟩
  | k + 1 => by
    have := nst_range l v k
    unfold nst
    split
    · exact ⟨by omega, by simp only; omega⟩
    · exact ⟨this.1, by omega⟩
theorem dist_nn (l : List (Int × Int)) : ∀ s, 0 ≤ s ∧ s < 18446744073709551616 → 0 ≤ l.foldl dstep s ∧ l.foldl dstep s < 18446744073709551616 := by
  induction l with
  | nil => intro s h; exact h
  | cons p l ih =>
    intro s h
    refine ih _ ?_
    unfold dstep
    rw [IntKind.wrap_u64]
    omega
theorem distV_range (l m : List Int) : 0 ≤ distV l m ∧ distV l m < 18446744073709551616 := dist_nn _ 0 (by omega)

theorem cmpr (a b : Int) : P.cmp_Compare_uint64.f a b = some (if a < b then -1 else if b < a then 1 else 0) := by
  unfold P.cmp_Compare_uint64.f P.cmp_isNaN_uint64.f
  simp
  split <;> (try rfl)
  split <;> rfl
theorem or_is (a b : Int) : P.cmp_Or_int.f 5 [a, b] = some (if a = 0 then b else a) := by
  by_cases h : a = 0
  · by_cases h2 : b = 0
    · subst h h2; decide +kernel
    · simp [P.cmp_Or_int.f, P.cmp_Or_int.l0, rd, wrap64, h, h2]
  · simp [P.cmp_Or_int.f, P.cmp_Or_int.l0, rd, wrap64, h]
theorem compare_is (i d j e : Int) : P.vec_Compare.f 5 i d j e = some (if d < e then -1 else if e < d then 1 else if i < j then -1 else if j < i then 1 else 0) := by
  unfold P.vec_Compare.f
  rw [cmpr, cmpr]
  simp only [Option.bind_some]
  rw [or_is]
  simp only [Option.bind_some]
  by_cases h1 : d < e
  · simp [h1]
  · by_cases h2 : e < d
    · simp [h1, h2]
    · simp [h1, h2]

theorem dist_at (l : List (List Int)) (v : List Int) (h : allErr (v :: l) = 0) (k : Nat) (hk : k < l.length) : vec_dist.f (l.getD k []) v = some (distV (l.getD k []) v) := by
  obtain ⟨h1, h2⟩ := (allErr_zero _).1 h
  rw [List.all_cons, Bool.and_eq_true] at h1
  have hr := right_at l h1.2 k hk
  have hl := len_at (v :: l) h2 (k + 1) (by simpa using hk)
  simp only [List.getD_cons_succ, List.getD_cons_zero] at hl
  have e1 : ∀ u, right u = true → u.all okC = true := fun u hu => by
    unfold right at hu
    rw [Bool.and_eq_true] at hu
    exact hu.2
  unfold vec_dist.f
  rw [if_pos ⟨hl, e1 _ hr, e1 _ h1.1⟩]

set_option maxHeartbeats 2000000 in
set_option maxRecDepth 100000 in
theorem vec_Nearest.calls (A : Option Addr) (c : Nat) (l : List (List Int)) (A' : Option Addr) (c' : Nat) (v : List Int) (r1 r2 : Int) (w : World) (hr : Kd.C (Kd.slice 21 (Kd.int .i32)) w A l.length l) (hc : l.length ≤ c) (hr' : Kd.C (Kd.int .i32) w A' v.length v) (hc' : v.length ≤ c') (h : vec_Nearest.f l v = some (r1, r2)) :
    Calls Try.prog 30 #[.slice A l.length c, .slice A' v.length c'] w fun e w' => e = .returned (.tuple #[.int .i64 r1, .int .i64 r2]) ∧ Below w.heap.size w w' := by
  unfold vec_Nearest.f at h
  split at h
  case isFalse => cases h
  case isTrue hbig =>
  replace h := Option.some.inj h
  unfold nearR at h
  by_cases h0 : l.length = 0
  · rw [if_pos h0] at h
    obtain ⟨rfl, rfl⟩ := Prod.mk.inj h
    obtain rfl : l = [] := List.length_eq_zero_iff.1 h0
    clear h h0 hr hbig hr'
    go_enter Try.func30, Try.ntmps30
    go_wp2_with fail
    go_returns
    exact ⟨rfl, Below.refl _ _⟩
  rw [if_neg h0] at h
  have e0 : ((l.length : Int) == 0) = false := by rw [beq_eq_false_iff_ne]; omega
  have HR := Aside0.mk hr
  have HR' := Aside0.mk hr'
  have HC' := Aside0.mk hc'
  have HK := Aside0.mk (show kR.K w v [.slice A' v.length c'] from ⟨A', c', rfl, hc', hr'⟩)
  have HB := Aside0.mk (Below.refl w.heap.size w)
  have hml := Kd.C_max hr'
  have HDA := Aside0.mk (dist_at l v)
  generalize hzz : allErr (v :: l) = z at h HDA
  have HZZ := Aside0.mk hzz
  have H := Aside0.mk h
  clear hr hr' h hc' hzz
  go_enter Try.func30, Try.ntmps30
  go_wp2_with (first | ((with_reducible refine gate_dst (N := 15) rfl ?_); refine Kd.R_lit (Kd.fixed kR w) (w0 := w) w.heap.size 25 ?hg (N := 15) ?hd (xs := [v]) (inner := [.slice A' v.length c']) (ok := fun _ => True) (okp := fun _ => True) ?hr ?hp (fun _ hk => hk) trivial (Below.refl _ _) (Nat.le_refl _) (by simp) ?_; (case hd => rfl); (case hg => rfl); (case hr => first | (go_simp; done) | (go_simp; rfl)); (case hp => exact Reps.one HK.out (Reps.none _ _)); intro v1 w1 ho hb hg_ hnew_; clear hg_ hnew_; have HO := Aside0.mk ho; have HB1 := Aside0.mk hb; clear ho hb) | ((with_reducible refine gate_builtin (b := .append) (xs := #[.tmp 15, .tmp 16]) rfl ?_); at_builtin; refine Kd.R_append_rows (Kd.fixed kR w) (Rr := kR.K w) (w0 := w) w.heap.size rfl (.tmp 15) (.tmp 16) 22 25 (.slice none 0 0) 24 rfl Try.underlying22 info_row rfl (show 0 < 1 by decide) (by omega) v1 [v] l A l.length c (fun _ => True) (fun _ => False) rfl rfl HO.out (ReadsRow.imp_ HR.out HB1.out (fun _ _ h => h)) (fun _ _ h => h) (fun _ h => h.elim) (fun _ _ => trivial) HB1.out (below_size HB1.out) (by simp only [List.length_cons, List.length_nil]; omega) ?_; intro v2 w2 ho hb hg hat; clear hg hat; obtain ⟨A2, c2, e2, hl2, hC2⟩ := Kd.R_reads ho; subst e2; have HC2 := Aside0.mk (ReadsRow.imp_ hC2 (Below.refl _ _) (fun _ _ hp => kR.K_below hb hp) : Kd.C kR w2 A2 ([v] ++ l).length ([v] ++ l)); have HL2 := Aside0.mk hl2; have HB2 := Aside0.mk hb; clear ho hb hl2 hC2))
  refine (vec_all.calls A2 c2 ([v] ++ l) z w2 HC2.out HL2.out (congrArg some HZZ.out)).mono ?_
  rintro e w3 ⟨rfl, hb3⟩
  have HB3 := Aside0.mk (below_step HB2.out hb3)
  clear hb3
  have h := H.out
  by_cases hz : z = 0
  case neg =>
    rw [if_neg hz] at h
    obtain ⟨rfl, rfl⟩ := Prod.mk.inj h
    have e1 : (z != 0) = true := by rw [bne_iff_ne]; exact hz
    clear h hz H
    go_wp2_with fail
    go_returns
    exact ⟨rfl, HB3.out⟩
  case pos =>
    rw [if_pos hz] at h
    obtain ⟨rfl, rfl⟩ := Prod.mk.inj h
    subst hz
    have HDB := Aside0.mk (HDA.out rfl)
    clear h H HDA
    obtain ⟨ad, A0, c0, hA, hcell, hlc0, hC0⟩ := C_row HR.out 0 (by omega)
    subst hA
    replace hcell := (HB3.out.cell (World.block_lt_of_cell? w _ hcell)).trans hcell
    rw [add0] at hcell
    have h0z : (0 : Int) < (l.length : Int) := by omega
    have h0n : 0 < l.length := by omega
    have HD := Aside0.mk (vec_dist.calls A0 c0 (l.getD 0 []) A' c' v _ w3 (Kd.C_below hC0 HB3.out) hlc0 (Kd.C_below HR'.out HB3.out) HC'.out (HDB.out 0 h0n))
    clear hlc0 hC0
    have HS0 := Aside0.mk (show nst l v 0 = (0, distV (l.getD 0 []) v) from rfl)
    generalize (l.getD 0 []).length = n0 at *
    generalize distV (l.getD 0 []) v = d0 at HD HS0
    go_wp2_with fail
    refine HD.out.mono ?_
    rintro e w4 ⟨rfl, hb4⟩
    have HB4 := Aside0.mk (below_step HB3.out hb4)
    have HN := Aside0.mk (show (w4.alloc (.cells #[.int .u64 0, .int .u64 d0] 41)).heap[w4.heap.size]? = some (.cells #[.int .u64 (nst l v 0).1, .int .u64 (nst l v 0).2] 41 (0, 0)) by rw [HS0.out]; exact heap_alloc_new w4 _)
    have HB5 := Aside0.mk (HB4.out.alloc HB4.out.size (.cells #[.int .u64 0, .int .u64 d0] 41))
    clear hb4 hcell h0z h0n HD HS0
    go_wp2_with fail
    go_loopg [30] l.length (fun gg s30 wr => ∃ kk : Nat, kk ≤ l.length ∧ l.length - kk ≤ gg ∧ s30 = .int .i64 kk ∧ Aside0 (wr.heap[w4.heap.size]? = some (.cells #[.int .u64 (nst l v kk).1, .int .u64 (nst l v kk).2] 41 (0, 0))) ∧ Aside0 (Below w.heap.size w wr))
    case atStart => exact ⟨0, Nat.zero_le _, by omega, rfl, HN, HB5⟩
    case round =>
      obtain ⟨kk, hkk, hg, rfl, HW, HBr⟩ := hrel
      by_cases hlt : kk < l.length
      · have hltz : (kk : Int) < (l.length : Int) := by omega
        obtain ⟨ad', A1, c1, hA, hcell, hlc1, hC1⟩ := C_row HR.out kk hlt
        injection hA with hA
        subst hA
        replace hcell := (HBr.out.cell (World.block_lt_of_cell? w _ hcell)).trans hcell
        have HD := Aside0.mk (vec_dist.calls A1 c1 (l.getD kk []) A' c' v _ wr (Kd.C_below hC1 HBr.out) hlc1 (Kd.C_below HR'.out HBr.out) HC'.out (HDB.out kk hlt))
        have HST := Aside0.mk (show nst l v (kk + 1) = if distV (l.getD kk []) v < (nst l v kk).2 ∨ (distV (l.getD kk []) v = (nst l v kk).2 ∧ (kk : Int) < (nst l v kk).1) then ((kk : Int), distV (l.getD kk []) v) else nst l v kk from rfl)
        clear hlc1 hC1
        generalize (l.getD kk []).length = n1 at *
        generalize distV (l.getD kk []) v = d at HD HST
        obtain ⟨j, hj⟩ : ∃ j, j = (nst l v kk).1 := ⟨_, rfl⟩
        obtain ⟨e, he⟩ : ∃ e, e = (nst l v kk).2 := ⟨_, rfl⟩
        have HJ := Aside0.mk hj
        have HE := Aside0.mk he
        have hw := HW.out
        rw [← hj, ← he] at hw
        have HW1 := Aside0.mk hw
        clear hj he hw
        have hcmp := compare_is kk d j e
        by_cases hc : d < e ∨ (d = e ∧ (kk : Int) < j)
        · have hres : P.vec_Compare.f 5 kk d j e = some (-1) := by
            rw [hcmp]
            rcases hc with hc | ⟨hc, hc2⟩
            · rw [if_pos hc]
            · rw [if_neg (by omega), if_neg (by omega), if_pos hc2]
          have HRS := Aside0.mk hres
          have HNX := Aside0.mk (show nst l v (kk + 1) = ((kk : Int), d) by rw [HST.out, if_pos (by rw [← HE.out, ← HJ.out]; exact hc)])
          clear hc hcmp hres
          go_wp2_with fail
          refine HD.out.mono ?_
          rintro e' w5 ⟨rfl, hb5⟩
          have HB5' := Aside0.mk (below_step HBr.out hb5)
          have HX := Aside0.mk (blk_alloc (blk_below HW1.out hb5) (.cells #[.int .u64 kk, .int .u64 d] 41))
          have HY := Aside0.mk (heap_alloc_new w5 (.cells #[.int .u64 kk, .int .u64 d] 41))
          have p0 : (w5.alloc (.cells #[.int .u64 kk, .int .u64 d] 41)).cell? ⟨w4.heap.size, 0, none⟩ = some (.int .u64 j) := (blk_cell HX.out 0).trans rfl
          have p1 : (w5.alloc (.cells #[.int .u64 kk, .int .u64 d] 41)).cell? ⟨w4.heap.size, 1, none⟩ = some (.int .u64 e) := (blk_cell HX.out 1).trans rfl
          clear hb5
          go_wp2_with fail
          refine (P.vec_Compare.calls 5 kk d j e (-1) _ HRS.out).mono ?_
          rintro e' w6 ⟨rfl, hb6⟩
          have HX6 := Aside0.mk (blk_below HX.out hb6)
          have HY6 := Aside0.mk (blk_below HY.out hb6)
          have HB6 := Aside0.mk (below_step (below_alloc HB5'.out _) hb6)
          have r0 : w6.cell? ⟨w5.heap.size, 0, none⟩ = some (.int .u64 kk) := (blk_cell HY6.out 0).trans rfl
          have r1 : w6.cell? ⟨w5.heap.size, 1, none⟩ = some (.int .u64 d) := (blk_cell HY6.out 1).trans rfl
          have s0 : w6.cell? ⟨w4.heap.size, 0, none⟩ = some (.int .u64 j) := (blk_cell HX6.out 0).trans rfl
          have s1 : w6.cell? ⟨w4.heap.size, 1, none⟩ = some (.int .u64 e) := (blk_cell HX6.out 1).trans rfl
          have f0 : w6.frozen? ⟨w4.heap.size, 0, none⟩ = false := blk_frozen HX6.out 0
          have f1 : w6.frozen? ⟨w4.heap.size, 1, none⟩ = false := blk_frozen HX6.out 1
          clear hb6 p0 p1
          go_wp2_with fail
          have HX7 := Aside0.mk (show ((w6.setCell ⟨w4.heap.size, 0, none⟩ (.int .u64 kk)).setCell ⟨w4.heap.size, 1, none⟩ (.int .u64 d)).heap[w4.heap.size]? = some (.cells #[.int .u64 (nst l v (kk + 1)).1, .int .u64 (nst l v (kk + 1)).2] 41 (0, 0)) by rw [HNX.out]; simpa using blk_set (blk_set HX6.out 0 (.int .u64 kk)) 1 (.int .u64 d))
          have HB7 := Aside0.mk ((HB6.out.setCell (p := ⟨w4.heap.size, 0, none⟩) HB4.out.size (.int .u64 kk)).setCell (p := ⟨w4.heap.size, 1, none⟩) HB4.out.size (.int .u64 d))
          go_roundg (l.length - (kk + 1))
          case measure => omega
          case rel => exact ⟨kk + 1, hlt, by omega, by go_num, HX7, HB7⟩
        · have hres : ∃ r, P.vec_Compare.f 5 kk d j e = some r ∧ 0 ≤ r := by
            rw [hcmp]
            refine ⟨_, rfl, ?_⟩
            rw [if_neg (by omega)]
            by_cases h1 : e < d
            · rw [if_pos h1]; omega
            · rw [if_neg h1, if_neg (by omega)]; split <;> omega
          obtain ⟨r, hres, hr0⟩ := hres
          have HRS := Aside0.mk hres
          have HNX := Aside0.mk (show nst l v (kk + 1) = nst l v kk by rw [HST.out, if_neg (by rw [← HE.out, ← HJ.out]; exact hc)])
          clear hc hcmp hres
          go_wp2_with fail
          refine HD.out.mono ?_
          rintro e' w5 ⟨rfl, hb5⟩
          have HB5' := Aside0.mk (below_step HBr.out hb5)
          have HX := Aside0.mk (blk_alloc (blk_below HW1.out hb5) (.cells #[.int .u64 kk, .int .u64 d] 41))
          have p0 : (w5.alloc (.cells #[.int .u64 kk, .int .u64 d] 41)).cell? ⟨w4.heap.size, 0, none⟩ = some (.int .u64 j) := (blk_cell HX.out 0).trans rfl
          have p1 : (w5.alloc (.cells #[.int .u64 kk, .int .u64 d] 41)).cell? ⟨w4.heap.size, 1, none⟩ = some (.int .u64 e) := (blk_cell HX.out 1).trans rfl
          clear hb5
          go_wp2_with fail
          refine (P.vec_Compare.calls 5 kk d j e r _ HRS.out).mono ?_
          rintro e' w6 ⟨rfl, hb6⟩
          have HX6 := Aside0.mk (blk_below HX.out hb6)
          have HB6 := Aside0.mk (below_step (below_alloc HB5'.out _) hb6)
          clear hb6 p0 p1
          go_wp2_with fail
          go_roundg (l.length - (kk + 1))
          case measure => omega
          case rel => exact ⟨kk + 1, hlt, by omega, by go_num, ⟨by rw [HNX.out, ← HE.out, ← HJ.out]; exact HX6.out⟩, HB6⟩
      · obtain rfl : kk = l.length := by omega
        have hn := nst_range l v l.length
        have q0 : wr.cell? ⟨w4.heap.size, 0, none⟩ = some (.int .u64 (nst l v l.length).1) := (blk_cell HW.out 0).trans rfl
        obtain ⟨hn1, hn2⟩ := hn
        have HB' := Aside0.mk HBr.out
        go_wp2_with fail
        go_returns
        exact ⟨rfl, HB'.out⟩

end Go.Proofs.Ytbdoeikdoohagaa.G
