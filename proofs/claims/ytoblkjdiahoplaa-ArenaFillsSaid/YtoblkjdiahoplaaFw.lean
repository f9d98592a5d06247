/- ArenaFills: the walk. -/
import Derived.Test.YtoblkjdiahoplaaFl
import Derived.Test.YtoblkjdiahoplaaPx10
namespace Go.Proofs.Ytoblkjdiahoplaa.G
open Go.Shelf Go.RowKit Go.Proofs.YtoblkjdiahoplaaW.PrintWords Go.Proofs.YtoblkjdiahoplaaW.PrintLast Go.Proofs.YtoblkjdiahoplaaW.PrintMore
set_option linter.unusedVariables false
set_option linter.unusedSimpArgs false

/-- What stands between the law's rounds: an arena that may be in the first box, the version in the second. -/
def FSt (w : World) (S : Nat → Prop) (b e : Int) (A1 : Option Addr) (c1 : Nat) (v : List Int) (wc : World) (A : Option Addr) (c : Nat) (l : List Cell) : Prop :=
  arenaOk l = true ∧ wc.heap[w.heap.size]? = some (.cells #[.slice A l.length c] 26 (0, 0)) ∧ wc.heap[w.heap.size + 1]? = some (.cells #[.int .u64 b, .int .u64 e, .slice A1 v.length c1] 34 (0, 0)) ∧
    Kd.V kC 36 wc wc.heap.size (fun k => k ≠ w.heap.size ∧ k ≠ w.heap.size + 1 ∧ S k) (.slice A l.length c) l ∧ Below w.heap.size w wc
theorem FSt.below {w wc W : World} {S : Nat → Prop} {b e : Int} {A1 : Option Addr} {c1 : Nat} {v : List Int} {A : Option Addr} {c : Nat} {l : List Cell} (h : FSt w S b e A1 c1 v wc A c l) (hb : Below wc.heap.size wc W) : FSt w S b e A1 c1 v W A c l := by
  obtain ⟨h1, h2, h3, h4, h5⟩ := h
  exact ⟨h1, blk_below h2 hb, blk_below h3 hb, Kd.V_below h4 hb, below_step h5 hb⟩
/-- Another arena is laid into the first box. -/
theorem FSt.put {w wc W : World} {S : Nat → Prop} {b e : Int} {A1 : Option Addr} {c1 : Nat} {v : List Int} {A A' : Option Addr} {c c' : Nat} {l l' : List Cell} (h : FSt w S b e A1 c1 v W A c l) (ho : arenaOk l' = true) (hN : Kd.V kC 36 W W.heap.size (fun k => k ≠ w.heap.size ∧ k ≠ w.heap.size + 1 ∧ S k) (.slice A' l'.length c') l') :
    FSt w S b e A1 c1 v (W.setCell ⟨w.heap.size, 0, none⟩ (.slice A' l'.length c')) A' c' l' := by
  obtain ⟨h1, h2, h3, h4, h5⟩ := h
  exact ⟨ho, blk_put (cs := #[.slice A l.length c]) h2 0 _ rfl, (Below.heap_setCell _ _ _ _ (by show w.heap.size + 1 ≠ w.heap.size; omega)).trans h3, Kd.V_far (p := ⟨w.heap.size, 0, none⟩) hN (fun k hk => hk.1) _, below_set h5 (Nat.le_refl _)⟩
/-- A store into the law's own map leaves it. -/
theorem FSt.map {w W : World} {m : Nat} {o : Obj} {b e : Int} {A1 : Option Addr} {c1 : Nat} {v : List Int} {A : Option Addr} {c : Nat} {l : List Cell} (h : FSt w (fun k => k ≠ m) b e A1 c1 v W A c l) (hm : w.heap.size + 2 ≤ m) :
    FSt w (fun k => k ≠ m) b e A1 c1 v { W with heap := W.heap.setIfInBounds m o } A c l := by
  obtain ⟨h1, h2, h3, h4, h5⟩ := h
  refine ⟨h1, (drop_far (by omega)).trans h2, (drop_far (by omega)).trans h3, ?_, drop_below h5 (by omega)⟩
  obtain ⟨A_, c_, hv, hl, hf⟩ := h4
  exact ⟨A_, c_, hv, hl, Kd.F_step hf (fun k hk _ => drop_far hk.2.2)⟩
set_option maxRecDepth 100000 in
set_option maxHeartbeats 2000000 in
theorem fills_main (A0 : Option Addr) (c0 : Nat) (l0 : List Cell) (b e : Int) (A1 : Option Addr) (c1 : Nat) (v : List Int) (A2 : Option Addr) (c2 : Nat) (ds : List Int) (w : World)
    (hc0 : l0.length ≤ c0) (hr0 : Kd.C kC w A0 l0.length l0) (hc1 : v.length ≤ c1) (hr1 : Kd.C (Kd.int .i32) w A1 v.length v) (hr2 : Kd.C (Kd.int .i64) w A2 ds.length ds)
    (hov : P.quiverlaw09_over.f 200 l0 = some false) (hlv : v.length ≤ 50) (hok : arenaOk l0 = true) (hv : rightVer b e v = true) :
    Calls Try.prog 5 #[.agg #[.slice A0 l0.length c0], .agg #[.int .u64 b, .int .u64 e, .slice A1 v.length c1], .slice A2 ds.length c2] w fun e w' => e = .returned (.bool true) ∧ Below w.heap.size w w' := by
  obtain ⟨w1, hw1⟩ : ∃ w1, w1 = (w.alloc (.cells #[.slice A0 l0.length c0] 26)).alloc (.cells #[.int .u64 b, .int .u64 e, .slice A1 v.length c1] 34) := ⟨_, rfl⟩
  have hsz : (w.alloc (.cells #[.slice A0 l0.length c0] 26)).heap.size = w.heap.size + 1 := by simp
  have HB1 := Aside0.mk (show Below w.heap.size w w1 by rw [hw1]; exact ((Below.refl _ _).alloc (Nat.le_refl _) _).alloc (by simp) _)
  have HBA := Aside0.mk (show w1.heap[w.heap.size]? = some (.cells #[.slice A0 l0.length c0] 26 (0, 0)) by rw [hw1]; exact (Below.heap_alloc _ _ _ (by simp)).trans (heap_alloc_new w _))
  have HBV := Aside0.mk (show w1.heap[w.heap.size + 1]? = some (.cells #[.int .u64 b, .int .u64 e, .slice A1 v.length c1] 34 (0, 0)) by rw [hw1, ← hsz]; exact heap_alloc_new _ _)
  have HW1 := Aside0.mk hw1
  have HR0 := Aside0.mk hr0
  have HR1 := Aside0.mk hr1
  have HR2 := Aside0.mk hr2
  have HC0 := Aside0.mk hc0
  have HC1 := Aside0.mk hc1
  have HOK := Aside0.mk hok
  have HV := Aside0.mk hv
  have HOV := Aside0.mk hov
  have hlv2 : decide (50 < v.length) = false := decide_eq_false (by omega)
  have hlv3 : decide (50 < (v.length : Int)) = false := decide_eq_false (by omega)
  clear hr0 hr1 hr2 hc0 hc1 hok hv hov hlv hw1 hsz
  go_enter Try.func5, Try.ntmps5
  go_upto_region 1 with (fail)
  rw [← HW1.out]
  go_wp2_with fail
  refine (P.quiverlaw09_wakes.calls true w1 P.quiverlaw09_wakes.is).mono ?_
  rintro e1 w2 ⟨rfl, hd⟩
  have HB2 := Aside0.mk (below_step HB1.out hd)
  have HBA2 := Aside0.mk (blk_below HBA.out hd)
  have HBV2 := Aside0.mk (blk_below HBV.out hd)
  have q0 : w2.cell? ⟨w.heap.size, 0, none⟩ = some (.slice A0 l0.length c0) := (blk_cell HBA2.out 0).trans rfl
  clear hd
  go_wp2_with fail
  refine (P.quiverlaw09_over.calls 200 A0 c0 l0 false w2 (Kd.C_below HR0.out HB2.out) HC0.out HOV.out).mono ?_
  rintro e1 w3 ⟨rfl, hd⟩
  have HB3 := Aside0.mk (below_step HB2.out hd)
  have HBA3 := Aside0.mk (blk_below HBA2.out hd)
  have HBV3 := Aside0.mk (blk_below HBV2.out hd)
  have q0 : w3.cell? ⟨w.heap.size, 0, none⟩ = some (.slice A0 l0.length c0) := (blk_cell HBA3.out 0).trans rfl
  have q2 : w3.cell? ⟨w.heap.size + 1, 2, none⟩ = some (.slice A1 v.length c1) := (blk_cell HBV3.out 2).trans rfl
  clear hd
  go_wp2_with fail
  refine (arena_Check.calls A0 c0 l0 0 w3 (Kd.C_below HR0.out HB3.out) HC0.out (by unfold arena_Check.f; rw [if_pos HOK.out])).mono ?_
  rintro e1 w4 ⟨rfl, hd⟩
  have HB4 := Aside0.mk (below_step HB3.out hd)
  have HBA4 := Aside0.mk (blk_below HBA3.out hd)
  have HBV4 := Aside0.mk (blk_below HBV3.out hd)
  have q0 : w4.cell? ⟨w.heap.size + 1, 0, none⟩ = some (.int .u64 b) := (blk_cell HBV4.out 0).trans rfl
  have q1 : w4.cell? ⟨w.heap.size + 1, 1, none⟩ = some (.int .u64 e) := (blk_cell HBV4.out 1).trans rfl
  have q2 : w4.cell? ⟨w.heap.size + 1, 2, none⟩ = some (.slice A1 v.length c1) := (blk_cell HBV4.out 2).trans rfl
  clear hd
  go_wp2_with fail
  refine (P.codec_CheckVersion.calls b e A1 c1 v 0 w4 (Kd.C_below HR1.out HB4.out) HC1.out (by rw [checkver_is, if_pos HV.out])).mono ?_
  rintro e1 w5 ⟨rfl, hd⟩
  have HB5 := Aside0.mk (below_step HB4.out hd)
  have HBA5 := Aside0.mk (blk_below HBA4.out hd)
  have HBV5 := Aside0.mk (blk_below HBV4.out hd)
  have hst5 : FSt w (fun _ => True) b e A1 c1 v w5 A0 c0 l0 := ⟨HOK.out, HBA5.out, HBV5.out, Kd.V_mono (Kd.V_mk HC0.out (Kd.F_below (Kd.C_F P.k36_heap HR0.out) HB5.out)) (fun k hk => ⟨by omega, by omega, trivial⟩), HB5.out⟩
  have HST5 := Aside0.mk hst5
  clear hd hst5
  go_upto_block 0 with (fail)
  go_cut [] (fun wc => Aside0 (∃ A c l, FSt w (fun _ => True) b e A1 c1 v wc A c l))
  case rest =>
    obtain ⟨A, c, l, hst⟩ := hcut.out
    have hmm := @run_makeMap Try.prog
    have HB := Aside0.mk hst.2.2.2.2
    obtain ⟨w6, hw6⟩ : ∃ w6, w6 = wc.alloc (.map #[] 0) := ⟨_, rfl⟩
    have hb6 : Below wc.heap.size wc w6 := by rw [hw6]; exact (Below.refl _ _).alloc (Nat.le_refl _) _
    have hst0 : FSt w (fun k => k ≠ wc.heap.size) b e A1 c1 v wc A c l := ⟨hst.1, hst.2.1, hst.2.2.1, Kd.V_mono (Kd.V_elderB hst.2.2.2.1 wc.heap.size (Nat.le_refl _)) (fun k hk => ⟨hk.1.1, hk.1.2.1, hk.2⟩), hst.2.2.2.2⟩
    have hst6 := hst0.below hb6
    have HMB := Aside0.mk (show w.heap.size + 2 ≤ wc.heap.size by have := blk_lt hst.2.2.1; omega)
    have hm6 : BM w6 wc.heap.size [] := by rw [hw6]; exact BM_new wc
    have HM6 := Aside0.mk hm6
    have HST6 := Aside0.mk hst6
    have q6 : w6.cell? ⟨w.heap.size, 0, none⟩ = some (.slice A l.length c) := (blk_cell hst6.2.1 0).trans rfl
    have HW6 := Aside0.mk hw6
    have HFR := Aside0.mk (show arena_Free.f l = some (freeC l : Int) by unfold arena_Free.f; rw [free_is l hst.1])
    have HF96 := Aside0.mk (show freeC l ≤ 96 by have h1 := arenaOk_len hst.1; have h2 : freeC l ≤ l.length := List.countP_le_length; omega)
    clear hst hst0 hb6 hst6 hm6 hw6
    go_upto_region 14 with (fail)
    rw [← HW6.out]
    go_wp2_with fail
    obtain ⟨A_, c_, he_, hc0, hF_⟩ := id HST6.out.2.2.2.1
    injection he_ with e1 e2 e3
    subst e1
    subst e3
    refine (arena_Free.calls A c l (freeC l : Int) w6 (Kd.F_now hF_) hc0 HFR.out).mono ?_
    rintro e1 w7 ⟨rfl, hd⟩
    have HST7 := Aside0.mk (HST6.out.below hd)
    have HM7 := Aside0.mk (show BM w7 wc.heap.size [] from blk_below HM6.out hd)
    clear hd q6 hc0 hF_ e2
    generalize hF : freeC l = F at *
    have HF := Aside0.mk hF
    clear hF
    go_wp2_with fail
    go_loopg [62] F (fun gg v62 wr => ∃ (i : Nat) (A' : Option Addr) (c' : Nat) (l' : List Cell) (ks : List Int), v62 = .int .i64 (i : Int) ∧ F - i ≤ gg ∧ freeC l' + i = F ∧ Aside0 (FSt w (fun k => k ≠ wc.heap.size) b e A1 c1 v wr A' c' l') ∧ Aside0 (BM wr wc.heap.size ks) ∧ Aside0 (∀ k ∈ ks, ∃ n : Nat, k = (n : Int) ∧ (l'.getD n P.z36).f0 = true))
    case atStart => exact ⟨0, A, c, l, [], rfl, by omega, HF.out, HST7, HM7, ⟨fun k hk => absurd hk List.not_mem_nil⟩⟩
    case round =>
      obtain ⟨i, A', c', l', ks, rfl, hgi, hfi, HSTi, HMi, HKi⟩ := hrel
      have q0 : wr.cell? ⟨w.heap.size, 0, none⟩ = some (.slice A' l'.length c') := (blk_cell HSTi.out.2.1 0).trans rfl
      have q1 : wr.cell? ⟨w.heap.size + 1, 0, none⟩ = some (.int .u64 b) := (blk_cell HSTi.out.2.2.1 0).trans rfl
      have q2 : wr.cell? ⟨w.heap.size + 1, 1, none⟩ = some (.int .u64 e) := (blk_cell HSTi.out.2.2.1 1).trans rfl
      have q3 : wr.cell? ⟨w.heap.size + 1, 2, none⟩ = some (.slice A1 v.length c1) := (blk_cell HSTi.out.2.2.1 2).trans rfl
      have HCv := Aside0.mk (show Kd.C (Kd.int .i32) wr A1 v.length v from Kd.C_below HR1.out HSTi.out.2.2.2.2)
      have HFI := Aside0.mk (show freeC l' + i = F ∧ F - i ≤ gk ∧ F ≤ 96 from ⟨hfi, hgi, HF96.out⟩)
      by_cases hi : i < F
      case neg =>
        have hiz : ¬ ((i : Int) < (F : Int)) := by omega
        obtain ⟨hp, hf0⟩ := fill_end l' 1 b e v HSTi.out.1 HV.out (by omega)
        have HP := Aside0.mk hp
        have HF0 := Aside0.mk hf0
        clear hp hf0 hi hfi hgi
        go_wp2_with fail
        refine (P.arena_Put.calls _ A' c' l' 1 b e A1 c1 v [] 0 6 wr HSTi.out.2.2.2.1 HCv.out HC1.out HP.out).mono ?_
        rintro e1 w8 ⟨v8, rfl, hN, hd⟩
        obtain ⟨A8, c8, e8⟩ := Kd.N_slice hN
        subst e8
        have HST8 := Aside0.mk (HSTi.out.below hd)
        obtain ⟨w9, hw9⟩ : ∃ w9, w9 = w8.alloc (.cells #[.slice A8 0 c8] 26) := ⟨_, rfl⟩
        have hst9 := HST8.out.below (W := w9) (by rw [hw9]; exact (Below.refl _ _).alloc (Nat.le_refl _) _)
        have HST9 := Aside0.mk hst9
        have q9 : w9.cell? ⟨w.heap.size, 0, none⟩ = some (.slice A' l'.length c') := (blk_cell hst9.2.1 0).trans rfl
        have HW9 := Aside0.mk hw9
        clear hd hN hst9 hw9
        go_upto_region 23 with (fail)
        rw [← HW9.out]
        go_wp2_with fail
        obtain ⟨A_, c_, he_, hcx, hFx⟩ := id HST9.out.2.2.2.1
        injection he_ with e1 e2 e3
        subst e1
        subst e3
        refine (arena_Free.calls A' c' l' 0 w9 (Kd.F_now hFx) hcx (by unfold arena_Free.f; rw [HF0.out])).mono ?_
        rintro e1 w10 ⟨rfl, hd⟩
        have HB10 := Aside0.mk (below_step HST9.out.2.2.2.2 hd)
        clear hd hcx hFx e2
        go_wp2_with fail
        go_returns
        exact ⟨rfl, HB10.out⟩
      case pos =>
        have hiz : (i : Int) < (F : Int) := by omega
        obtain ⟨n, hn, hp, hu, ho, hf, hus⟩ := fill_step l' (IntKind.u64.wrap (i : Int)) b e v HSTi.out.1 HV.out (by omega)
        obtain ⟨L, hL⟩ : ∃ L, L = l'.set n (⟨true, IntKind.u64.wrap (i : Int), ⟨b, e, v⟩⟩ : Cell) := ⟨_, rfl⟩
        rw [← hL] at hp ho hf hus
        have HP := Aside0.mk hp
        have HU := Aside0.mk hu
        have HO := Aside0.mk ho
        have HFL := Aside0.mk hf
        have HUS := Aside0.mk hus
        have HN := Aside0.mk hn
        clear hfi hgi hp hu ho hf hus hL hn
        go_wp2_with fail
        refine (P.arena_Put.calls _ A' c' l' (IntKind.u64.wrap (i : Int)) b e A1 c1 v L (n : Int) 0 wr HSTi.out.2.2.2.1 HCv.out HC1.out HP.out).mono ?_
        rintro e1 w8 ⟨v8, rfl, hN, hd⟩
        obtain ⟨A8, c8, e8⟩ := Kd.N_slice hN
        subst e8
        have hst8 := HSTi.out.below hd
        have hm8 : BM w8 wc.heap.size ks := blk_below HMi.out hd
        have hmr : wc.heap.size < wr.heap.size := blk_lt HMi.out
        have hszr : w.heap.size + 2 ≤ wr.heap.size := by have := blk_lt HSTi.out.2.2.1; omega
        obtain ⟨w9, hw9⟩ : ∃ w9, w9 = w8.alloc (.cells #[.slice A8 L.length c8] 26) := ⟨_, rfl⟩
        have hb9 : Below w8.heap.size w8 w9 := by rw [hw9]; exact (Below.refl _ _).alloc (Nat.le_refl _) _
        have hst9 := hst8.below hb9
        have hm9 : BM w9 wc.heap.size ks := blk_below hm8 hb9
        have hV9 : Kd.V kC 36 w9 w9.heap.size (fun k => k ≠ w.heap.size ∧ k ≠ w.heap.size + 1 ∧ (fun k => k ≠ wc.heap.size) k) (.slice A8 L.length c8) L :=
          Kd.V_below (Kd.V_mono (Kd.N_V (base' := w9.heap.size) hN) (fun k hk => by rcases hk with hk | hk; exact hk; exact ⟨by omega, by omega, by show k ≠ wc.heap.size; omega⟩)) hb9
        have hn9 : w9.heap[w8.heap.size]? = some (.cells #[.slice A8 L.length c8] 26 (0, 0)) := by rw [hw9]; exact heap_alloc_new w8 _
        have hnk : (n : Int) ∉ ks := fun h => by
          obtain ⟨n', h1, h2⟩ := HKi.out _ h
          have : n' = n := by omega
          subst this
          rw [HU.out] at h2
          cases h2
        have hlk := run_look (P := Try.prog) w9 wc.heap.size ks (n : Int) Try.underlying49 Try.underlying3 (by rfl) hm9
        rw [decide_eq_false hnk] at hlk
        obtain ⟨A_, c_, he_, hcx, hFx⟩ := id hst9.2.2.2.1
        injection he_ with e1 e2 e3
        subst e1
        subst e3
        have hl96 := arenaOk_len hst9.1
        have hnn := HN.out
        obtain ⟨ad2, Av, cv, ea, x0, x1, x2, x3, x4, _, _⟩ := P.at_T36 (Kd.F_now hFx) (n : Int) (by omega) (by omega)
        subst ea
        rw [Int.toNat_natCast, rdT_nat, HU.out] at x0
        have hnl : (n : Int) < (l'.length : Int) := by omega
        have hnl2 : ¬ ((l'.length : Int) ≤ (n : Int)) := by omega
        have q9 : w9.cell? ⟨w.heap.size, 0, none⟩ = some (.slice (some ad2) l'.length c') := (blk_cell hst9.2.1 0).trans rfl
        have HST9 := Aside0.mk hst9
        have HM9 := Aside0.mk hm9
        have HV9 := Aside0.mk hV9
        have HN9 := Aside0.mk hn9
        have HNK := Aside0.mk hnk
        have HW9 := Aside0.mk hw9
        clear hd hN hst8 hm8 hmr hszr hw9 hb9 hst9 hm9 hV9 hn9 hnk e2 hcx hFx hl96 hnn x1 x2 x3 x4 q0 q1 q2 q3
        go_upto_region 18 with (fail)
        rw [← HW9.out]
        have q13 : w9.cell? ⟨w8.heap.size, 0, none⟩ = some (.slice A8 L.length c8) := (blk_cell HN9.out 0).trans rfl
        have f9 := blk_frozen HST9.out.2.1 0
        have hmb := HMB.out
        have hmD : BM w9.drew wc.heap.size ks := HM9.out
        have hs1 := run_store (P := Try.prog) w9.drew wc.heap.size ks (n : Int) Try.underlying49 Try.underlying3 hmD HNK.out
        obtain ⟨wm, hwm⟩ : ∃ wm, wm = ({ w9.drew with heap := w9.drew.heap.setIfInBounds wc.heap.size (.map (ents (ks ++ [(n : Int)])) (ks.length + 1)) } : World) := ⟨_, rfl⟩
        rw [← hwm] at hs1
        have hstm : FSt w (fun k => k ≠ wc.heap.size) b e A1 c1 v wm (some ad2) c' l' := by rw [hwm]; exact FSt.map (W := w9.drew) (HST9.out.below (Below.drew (Below.refl _ _))) hmb
        have hmm1 : BM wm wc.heap.size (ks ++ [(n : Int)]) := by rw [hwm]; exact BM_store hmD
        have hVm : Kd.V kC 36 wm wm.heap.size (fun k => k ≠ w.heap.size ∧ k ≠ w.heap.size + 1 ∧ (fun k => k ≠ wc.heap.size) k) (.slice A8 L.length c8) L := by
          obtain ⟨A_, c_, hv, hl, hf⟩ := HV9.out
          rw [hwm]
          exact ⟨A_, c_, hv, hl, Kd.F_step (W := w9) hf (fun k hk _ => drop_far (w := w9.drew) hk.2.2)⟩
        have hne8 : w8.heap.size ≠ wc.heap.size := fun h8 => by
          have h1 : w9.heap[wc.heap.size]? = some (.map (ents ks) ks.length) := HM9.out
          have h2 := HN9.out
          rw [h8, h1] at h2
          cases h2
        have q13m : wm.cell? ⟨w8.heap.size, 0, none⟩ = some (.slice A8 L.length c8) := by
          have h3 : wm.heap[w8.heap.size]? = some (.cells #[.slice A8 L.length c8] 26 (0, 0)) := by rw [hwm]; exact (drop_far (w := w9.drew) hne8).trans HN9.out
          exact (blk_cell h3 0).trans rfl
        have hq1 : wm.cell? ⟨w.heap.size, 0, none⟩ = some (.slice (some ad2) l'.length c') := (blk_cell hstm.2.1 0).trans rfl
        have hq2 := blk_frozen hstm.2.1 0
        have hmP : BM (w9.drew.setCell ⟨w.heap.size, 0, none⟩ (.slice A8 L.length c8)) wc.heap.size ks := (Below.heap_setCell _ _ _ _ (by show wc.heap.size ≠ w.heap.size; omega)).trans HM9.out
        have hs2 := run_store (P := Try.prog) (w9.drew.setCell ⟨w.heap.size, 0, none⟩ (.slice A8 L.length c8)) wc.heap.size ks (n : Int) Try.underlying49 Try.underlying3 hmP HNK.out
        have HSTM := Aside0.mk hstm
        have HMM1 := Aside0.mk hmm1
        have HVM := Aside0.mk hVm
        have HMP := Aside0.mk hmP
        clear hmb hstm hmm1 hVm hmP hmD hwm hne8
        have HKK := Aside0.mk (show wrap64 ((i : Int) + 1) = ((i + 1 : Nat) : Int) by have := HFI.out; rw [w64 (by omega) (by omega)]; omega)
        have HKS := Aside0.mk (show ∀ k ∈ ks ++ [(n : Int)], ∃ n' : Nat, k = (n' : Int) ∧ (L.getD n' P.z36).f0 = true from fun k hk => by
          rcases List.mem_append.mp hk with h | h
          · obtain ⟨n', h1, h2⟩ := HKi.out k h
            exact ⟨n', h1, HUS.out n' (.inr h2)⟩
          · exact ⟨n, List.mem_singleton.mp h, HUS.out n (.inl rfl)⟩)
        obtain ⟨g1, rfl⟩ : ∃ g1, gk = g1 + 1 := ⟨gk - 1, by have := HFI.out; omega⟩
        have HI := Aside0.mk hi
        go_upto_region 20 with (fail)
        go_region
        all_goals go_wp2_with fail
        all_goals go_roundg g1
        all_goals first
          | (have := HI.out; have := HFI.out; omega)
          | exact ⟨i + 1, _, _, L, ks ++ [(n : Int)], by rw [HKK.out], by have := HFI.out; omega, by have := HFI.out; have := HFL.out; omega, ⟨FSt.put (wc := wm) HSTM.out HO.out HVM.out⟩, ⟨(Below.heap_setCell _ _ _ _ (by have := HMB.out; show wc.heap.size ≠ w.heap.size; omega)).trans HMM1.out⟩, HKS⟩
          | exact ⟨i + 1, _, _, L, ks ++ [(n : Int)], by rw [HKK.out], by have := HFI.out; omega, by have := HFI.out; have := HFL.out; omega, ⟨FSt.map (FSt.put (wc := w9) (HST9.out.below (Below.drew (Below.refl _ _))) HO.out (Kd.V_below HV9.out (Below.drew (Below.refl _ _)))) HMB.out⟩, ⟨BM_store HMP.out⟩, HKS⟩
  go_wp2_with fail
  go_loopg [41] ds.length (fun gg v41 wr => ∃ kk : Nat, kk ≤ ds.length ∧ ds.length - kk ≤ gg ∧ v41 = .int .i64 (kk : Int) ∧ Aside0 (∃ A c l, FSt w (fun _ => True) b e A1 c1 v wr A c l))
  case atStart => exact ⟨0, by omega, by omega, rfl, ⟨_, _, _, HST5.out⟩⟩
  case round =>
    obtain ⟨kk, hkl, hgk, rfl, ⟨A, c, l, hst⟩⟩ := hrel
    have HST := Aside0.mk hst
    by_cases hlt : kk < ds.length
    case neg =>
      have hltz : ¬ ((kk : Int) < (ds.length : Int)) := by omega
      clear hst hgk hkl
      go_wp2_with fail
      go_meet
      exact ⟨_, _, _, HST.out⟩
    case pos =>
      obtain ⟨ad, e210, hx0⟩ := Kd.at_int HR2.out (kk : Int) (by omega) (by omega)
      subst e210
      have hx : wr.cell? (ad.add ((kk : Int).toNat)) = some (.int .i64 (rd ds (kk : Int))) := (hst.2.2.2.2.cell (World.block_lt_of_cell? w _ hx0)).trans hx0
      have hltz : (kk : Int) < (ds.length : Int) := by omega
      rw [Int.toNat_natCast] at hx
      generalize rd ds (kk : Int) = sl at hx
      by_cases h100 : (kk : Int) = 100
      · have h100b : ((kk : Int) == 100) = true := beq_iff_eq.mpr h100
        clear hst hgk hkl hx0 hlt h100
        go_wp2_with fail
        go_meet
        exact ⟨_, _, _, HST.out⟩
      · have h100b : ((kk : Int) == 100) = false := beq_eq_false_iff_ne.mpr h100
        have q0 : wr.cell? ⟨w.heap.size, 0, none⟩ = some (.slice A l.length c) := (blk_cell hst.2.1 0).trans rfl
        have HGK := Aside0.mk (show ds.length - kk ≤ gk ∧ kk < ds.length from ⟨hgk, hlt⟩)
        obtain ⟨r, er, hdr⟩ := drop_some l sl
        have HDR := Aside0.mk hdr
        clear hst hgk hkl hx0 hlt h100 hdr
        go_wp2_with fail
        have hstA := HST.out.below (W := wr.alloc (.cells #[.int .i64 sl] 3)) ((Below.refl _ _).alloc (Nat.le_refl _) _)
        refine (arena_Drop.calls _ A c l _ 1 sl r er _ hstA.2.2.2.1 (C_lit .i64 wr [sl] 3 (by simp)) HDR.out).mono ?_
        rintro e1 w6 ⟨v6, rfl, hN, hd⟩
        obtain ⟨A6, c6, e6⟩ := Kd.N_slice hN
        subst e6
        have hst6 := hstA.below hd
        have hsz6 : w.heap.size + 2 ≤ w6.heap.size := by have := blk_lt hst6.2.2.1; omega
        have hszA : w.heap.size + 2 ≤ (wr.alloc (.cells #[.int .i64 sl] 3)).heap.size := by have := blk_lt hstA.2.2.1; omega
        obtain ⟨w7, hw7⟩ : ∃ w7, w7 = w6.alloc (.cells #[.slice A6 r.length c6] 26) := ⟨_, rfl⟩
        have hb7 : Below w6.heap.size w6 w7 := by rw [hw7]; exact (Below.refl _ _).alloc (Nat.le_refl _) _
        have hst7 := hst6.below hb7
        have hV7 : Kd.V kC 36 w7 w7.heap.size (fun k => k ≠ w.heap.size ∧ k ≠ w.heap.size + 1 ∧ (fun _ => True) k) (.slice A6 r.length c6) r :=
          Kd.V_below (Kd.V_mono (Kd.N_V (base' := w7.heap.size) hN) (fun k hk => by rcases hk with hk | hk; exact hk; exact ⟨by omega, by omega, trivial⟩)) hb7
        have hn7 : w7.heap[w6.heap.size]? = some (.cells #[.slice A6 r.length c6] 26 (0, 0)) := by rw [hw7]; exact heap_alloc_new w6 _
        have HST7 := Aside0.mk hst7
        have HV7 := Aside0.mk hV7
        have q7 : w7.cell? ⟨w6.heap.size, 0, none⟩ = some (.slice A6 r.length c6) := (blk_cell hn7 0).trans rfl
        have q8 : w7.cell? ⟨w.heap.size, 0, none⟩ = some (.slice A l.length c) := (blk_cell hst7.2.1 0).trans rfl
        have f8 := blk_frozen hst7.2.1 0
        have HW7 := Aside0.mk hw7
        clear q0 hstA hN hd hst6 hsz6 hszA hw7 hb7 hst7 hV7 hn7
        go_upto_region 10 with (fail)
        rw [← HW7.out]
        have HKK := Aside0.mk (show wrap64 ((kk : Int) + 1) = ((kk + 1 : Nat) : Int) by have := Kd.C_max HR2.out; have := HGK.out; rw [w64 (by omega) (by omega)]; omega)
        obtain ⟨g1, rfl⟩ : ∃ g1, gk = g1 + 1 := ⟨gk - 1, by have := HGK.out; omega⟩
        by_cases he : er = 0
        · have heb : (er == 0) = true := beq_iff_eq.mpr he
          have HRO := Aside0.mk (drop_ok HST.out.1 HDR.out he)
          clear he
          go_wp2_with fail
          go_roundg g1
          case measure => omega
          case rel => exact ⟨kk + 1, by have := HGK.out; omega, by have := HGK.out; omega, by first | rfl | go_num | (rw [HKK.out]), ⟨_, _, _, FSt.put (wc := w7) HST7.out HRO.out HV7.out⟩⟩
        · have heb : (er == 0) = false := beq_eq_false_iff_ne.mpr he
          clear he
          go_wp2_with fail
          go_roundg g1
          case measure => omega
          case rel => exact ⟨kk + 1, by have := HGK.out; omega, by have := HGK.out; omega, by first | rfl | go_num | (rw [HKK.out]), ⟨_, _, _, HST7.out⟩⟩

end Go.Proofs.Ytoblkjdiahoplaa.G
