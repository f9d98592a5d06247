/- SnapsOldest: the walk. -/
import Derived.Test.YtfpicgefmgnfnaaS5
import Derived.Deep.CutRange
import Derived.Deep.DeepCutAuto
namespace Go.Proofs.Ytfpicgefmgnfnaa.G
open Go.RowKit Go.Proofs.YtfpicgefmgnfnaaW.PrintWords Go.Proofs.YtfpicgefmgnfnaaW.PrintLast Go.Proofs.YtfpicgefmgnfnaaW.PrintMore
set_option linter.unusedVariables false
set_option linter.unusedSimpArgs false

abbrev kD : Kd (Int × Int) := Kd.pair (Kd.int .i64) (Kd.int .i64)

theorem C_deed {w : World} {A : Option Addr} {l : List (Int × Int)} (h : Kd.C kD w A l.length l) (k : Nat) (hk : k < l.length) :
    ∃ ad, A = some ad ∧ w.cell? (ad.add (k * 2)) = some (.int .i64 (l.getD k (0, 0)).1) ∧ w.cell? ⟨(ad.add (k * 2)).block, (ad.add (k * 2)).off + 1, none⟩ = some (.int .i64 (l.getD k (0, 0)).2) := by
  obtain ⟨ad, cc, hA, _, hK, hcell⟩ := Kd.C_get h (0, 0) (k : Int) (by omega) (by omega)
  rw [Int.toNat_natCast] at hK hcell
  obtain ⟨c0, c1, rfl, h0, h1⟩ := hK
  have h0' : c0 = [.int .i64 (l.getD k (0, 0)).1] := h0
  have h1' : c1 = [.int .i64 (l.getD k (0, 0)).2] := h1
  subst h0' h1'
  have hc : ∀ j u, ([Value.int .i64 (l.getD k (0, 0)).1] ++ [Value.int .i64 (l.getD k (0, 0)).2])[j]? = some u → w.cell? (ad.add (k * 2 + j)) = some u := hcell
  exact ⟨ad, hA, hc 0 _ rfl, by rw [← add_field _ _ 1 (by omega)]; exact hc 1 _ rfl⟩
/-- What holds between two rounds. -/
structure At (Q : Program) (w wr : World) (B : Nat) (k : Nat) (a : Int) (L : List H) (A' : Option Addr) (c' : Nat) (D M : DU) (lst old : Int) : Prop where
  st : St a L lst old k
  so : SOk D L
  mo : MOk M a
  box : wr.heap[B]? = some (.cells #[.int .i64 a, .slice A' L.length c'] 24 (0, 0))
  cap : L.length ≤ c'
  rd : Kd.C P.k33 wr A' L.length L
  ms : wr.ownsMap Q 3 (plainElem Q 25) (B + 1) k D
  mm : wr.ownsMap Q 3 (plainElem Q 4) (B + 1 + 1) k M
  bel : Below w.heap.size w wr

theorem grown_of_below {w w' : World} (h : Below w.heap.size w w') : w.grownBy w' none := ⟨h.os, h.tape, h.output, h.size, fun k hk _ => h.block k hk⟩
theorem At.below {Q : Program} {w wr wr' : World} {B k : Nat} {a : Int} {L : List H} {A' : Option Addr} {c' : Nat} {D M : DU} {lst old : Int} (h : At Q w wr B k a L A' c' D M lst old) (hb : Below wr.heap.size wr wr') : At Q w wr' B k a L A' c' D M lst old :=
  ⟨h.st, h.so, h.mo, blk_below h.box hb, h.cap, Kd.C_below h.rd hb, h.ms.kept (grown_of_below hb) (by simp), h.mm.kept (grown_of_below hb) (by simp), below_step h.bel hb⟩
theorem At.later {Q : Program} {w wr : World} {B k : Nat} {a : Int} {L : List H} {A' : Option Addr} {c' : Nat} {D M : DU} {lst old : Int} (h : At Q w wr B k a L A' c' D M lst old) : At Q w wr B (k + 1) a L A' c' D M lst old :=
  ⟨h.st.later, h.so, h.mo, h.box, h.cap, h.rd, h.ms.mono (by omega), h.mm.mono (by omega), h.bel⟩
theorem zero_bool (w : World) : (zeroValue 4).run Try.prog w = .ok (.bool false) w := by kernel_rfl
theorem key_i64 {x : Int} (h1 : -9223372036854775808 ≤ x) (h2 : x ≤ 9223372036854775807) : keyOf Try.prog 3 (.int .i64 x) = some (.int .i64 x) := Maps.keyOf_int_mk Try.underlying3 (WalkArith.wf_i64 ⟨h1, h2⟩)
/-- 'm[k]' of bools, where the key is not there. -/
theorem lookup_bool_no {P : Program} (w : World) {ops : Array Oper} {rest : List Oper} {o : Oper} {a : Act} {Q : Exit → Act → World → Prop}
    (hg : o.guard = none) (m x : Operand) (t : TypeId) (hop : o.op = Op.lookup t m x false)
    (k e : TypeId) (K : Maps.Keyed P k) (ht : P.underlying t = some (.map k e)) (he : P.underlying e = some .bool) (hz : (zeroValue e).run P w = .ok (.bool false) w) (b n : Nat) (D : DU)
    (hm : a.eval m = .map (some b)) (hown : w.ownsMap P k (plainElem P e) b n D) (key : Value) (kl : Lit) (hx : a.eval x = key) (hkey : keyOf P k key = some kl) (hno : Maps.has D kl = false)
    (hK : wpList P ops Q rest (a.put o.dst (.bool false)) w) :
    wpList P ops Q (o :: rest) a w := by
  refine wpList_plain hg fun K' hK' => ?_
  obtain ⟨v, ps, hrun, hv⟩ := hown.lookup K ht hz (plainElem_bool he false) hkey
  rw [Maps.atKey_of_not_has hno] at hv
  have hvb : v = .bool false := by
    unfold plainElem at hv
    split at hv
    · cases hv; rfl
    · split at hv
      · cases hv
      · cases hv
    · split at hv
      · cases hv
      · cases hv
    · cases hv
  subst hvb
  unfold Oper.wp
  simp [execOp, hop, hm, hx, hrun, Result.andThen]
  exact hK' _ _ hK

set_option maxHeartbeats 4000000 in
set_option maxRecDepth 100000 in
theorem snapsOldest.go (A : Option Addr) (c : Nat) (l : List (Int × Int)) (w : World) (hr : Kd.C kD w A l.length l) (hc : l.length ≤ c) (hwf : ∀ k, (l.getD k (0, 0)).1 ≤ 9223372036854775807) :
    Calls Try.prog 5 #[.slice A l.length c] w fun e w' => e = .returned (.bool true) ∧ Below w.heap.size w w' := by
  have HR := Aside0.mk hr
  have hml := Kd.C_max hr
  have HWF := Aside0.mk hwf
  clear hr hc hwf
  have hmm := @run_makeMap Try.prog
  go_enter Try.func5, Try.ntmps5
  go_wp2_with fail
  refine (P.quiverlaw17_wakes.calls 500 true _ (by decide +kernel)).mono ?_
  rintro e w1 ⟨rfl, hb1⟩
  have HB1 := Aside0.mk hb1
  clear hb1
  go_wp2_with fail
  refine (P.snaps_New.calls 1 [] _ rfl).mono ?_
  rintro e w2 ⟨v2, rfl, ho2, hb2⟩
  obtain ⟨A2, c2, rfl, hl2, hC2⟩ := Kd.R_reads ho2
  have HB2 := Aside0.mk (below_step HB1.out hb2)
  have HC2 := Aside0.mk hC2
  clear hb2 hC2 ho2 hl2
  go_wp2_with fail
  go_loopg [4, 5, 33] l.length (fun gg v4 v5 s33 wr => ∃ (k : Nat) (a : Int) (L : List H) (A' : Option Addr) (c' : Nat) (D M : DU) (lst old : Int), k ≤ l.length ∧ l.length - k ≤ gg ∧ k ≤ 150 ∧ s33 = .int .i64 k ∧ v4 = .int .u64 lst ∧ v5 = .int .u64 old ∧ Aside0 (At Try.prog w wr w2.heap.size k a L A' c' D M lst old))
  case atStart =>
    refine ⟨0, 1, [], A2, c2, .map [], .map [], 0, 0, Nat.zero_le _, by omega, by omega, rfl, rfl, rfl, ⟨⟨St.start0, SOk.empty, MOk.empty 1, ?_, Nat.zero_le _, ?_, ?_, ?_, ?_⟩⟩⟩
    · exact blk_alloc (blk_alloc (heap_alloc_new w2 _) _) _
    · exact Kd.C_alloc (Kd.C_alloc (Kd.C_alloc HC2.out _) _) _
    · have := (World.ownsMap_made (H := Unit) (w2.alloc (.cells #[.int .i64 1, .slice A2 0 c2] 24)) Try.prog 3 (plainElem Try.prog 25)).alloc (.map #[] 0)
      simpa using this
    · have := World.ownsMap_made (H := Unit) ((w2.alloc (.cells #[.int .i64 1, .slice A2 0 c2] 24)).alloc (.map #[] 0)) Try.prog 3 (plainElem Try.prog 4)
      simpa using this
    · exact below_alloc (below_alloc (below_alloc HB2.out _) _) _
  case round =>
    obtain ⟨k, a, L, A', c', D, M, lst, old, hk, hg, hk150, rfl, rfl, rfl, HA⟩ := hrel
    by_cases hlt : k < l.length
    · have hltz : (k : Int) < (l.length : Int) := by omega
      obtain ⟨ad, rfl, q0, q1⟩ := C_deed HR.out k hlt
      replace q0 := (HA.out.bel.cell (World.block_lt_of_cell? w _ q0)).trans q0
      replace q1 := (HA.out.bel.cell (World.block_lt_of_cell? w _ q1)).trans q1
      have hwb := HWF.out k
      generalize l.getD k (0, 0) = dd at *
      obtain ⟨by_, at_⟩ := dd
      simp only at q0 q1 hwb
      have HWB := Aside0.mk (And.intro hwb trivial)
      clear hwb
      by_cases h150 : k = 150
      · have e150 : ((k : Int) == 150) = true := by rw [beq_iff_eq]; omega
        clear h150
        have HALL := Aside0.mk (show ∃ W', W' = wr.alloc (.cells #[.int .i64 by_, .int .i64 at_] 53) ∧ Below wr.heap.size wr W' from ⟨_, rfl, (Below.refl _ _).alloc (Nat.le_refl _) _⟩)
        have hlen := (right_len HA.out.st.r).1
        have hsz : Maps.size D = L.length := HA.out.so.2.1
        go_upto_region 45 with (fail)
        obtain ⟨W, hW, hbW⟩ := HALL.out
        rw [← hW]
        clear hW
        have HAW := Aside0.mk (HA.out.below hbW)
        have t0 : W.cell? ⟨w2.heap.size, 0, none⟩ = some (.int .i64 a) := (blk_cell HAW.out.box 0).trans rfl
        have t1 : W.cell? ⟨w2.heap.size, 1, none⟩ = some (.slice A' L.length c') := (blk_cell HAW.out.box 1).trans rfl
        go_wp2_with fail
        refine (P.snaps_Check.calls 100 a A' c' L 0 W HAW.out.rd HAW.out.cap (by rw [check_is 100 a L (by omega), if_pos HA.out.st.r])).mono ?_
        rintro e w3 ⟨rfl, hb3⟩
        have HA3 := Aside0.mk (HAW.out.below hb3)
        have s0 : w3.cell? ⟨w2.heap.size, 0, none⟩ = some (.int .i64 a) := (blk_cell HA3.out.box 0).trans rfl
        have s1 : w3.cell? ⟨w2.heap.size, 1, none⟩ = some (.slice A' L.length c') := (blk_cell HA3.out.box 1).trans rfl
        clear hb3 t0 t1 HAW hbW
        go_wp2_with fail
        refine (P.snaps_Nums.calls 100 a A' c' L (L.map (·.f0)) w3 HA3.out.rd HA3.out.cap (by rw [nums_is 100 a L (by omega), if_pos HA.out.st.r])).mono ?_
        rintro e w4 ⟨v4, rfl, ho4, hb4⟩
        obtain ⟨A4, c4, ev, hl4, hC4⟩ := Kd.R_reads ho4
        subst ev
        rw [List.length_map]
        have HA4 := Aside0.mk (HA3.out.below hb4)
        clear hb4 ho4 hl4 hC4 s0 s1
        have hrun := HA4.out.ms.len Try.underlying50 3
        rw [hsz] at hrun
        go_wp2_with fail
        go_ret
        exact ⟨rfl, HA4.out.bel⟩
      have e150 : ((k : Int) == 150) = false := by rw [beq_eq_false_iff_ne]; omega
      go_upto_if 42 with (fail)
      have HAl := Aside0.mk (HA.out.below ((Below.refl wr.heap.size wr).alloc (Nat.le_refl _) (.cells #[.int .i64 by_, .int .i64 at_] 53)))
      have hblk := heap_alloc_new wr (.cells #[.int .i64 by_, .int .i64 at_] 53)
      obtain ⟨W, hW⟩ : ∃ W, W = wr.alloc (.cells #[.int .i64 by_, .int .i64 at_] 53) := ⟨_, rfl⟩
      rw [← hW] at HAl hblk ⊢
      have p0 : W.cell? ⟨wr.heap.size, 0, none⟩ = some (.int .i64 by_) := (blk_cell hblk 0).trans rfl
      have p1 : W.cell? ⟨wr.heap.size, 1, none⟩ = some (.int .i64 at_) := (blk_cell hblk 1).trans rfl
      obtain ⟨B9, hB9⟩ : ∃ B9, B9 = wr.heap.size := ⟨_, rfl⟩
      rw [← hB9] at p0 p1 ⊢
      have HBLK := Aside0.mk hblk
      clear q0 q1 hblk hW HA hB9
      have x0 : W.cell? ⟨w2.heap.size, 0, none⟩ = some (.int .i64 a) := (blk_cell HAl.out.box 0).trans rfl
      have x1 : W.cell? ⟨w2.heap.size, 1, none⟩ = some (.slice A' L.length c') := (blk_cell HAl.out.box 1).trans rfl
      have y0 : W.frozen? ⟨w2.heap.size, 0, none⟩ = false := blk_frozen HAl.out.box 0
      have y1 : W.frozen? ⟨w2.heap.size, 1, none⟩ = false := blk_frozen HAl.out.box 1
      go_cut [4] (fun v4 wc => ∃ (a1 : Int) (L1 : List H) (A1 : Option Addr) (c1 : Nat) (D1 M1 : DU) (lst1 : Int), v4 = .int .u64 lst1 ∧ Aside0 (At Try.prog w wc w2.heap.size (k + 1) a1 L1 A1 c1 D1 M1 lst1 old))
      case first =>
        by_cases hby : 0 ≤ by_
        · have hl49 := HAl.out.st.lst49
          have hol := HAl.out.st.oldl
          have ho0 := HAl.out.st.old0
          have hbm := HWB.out.1
          have hu : IntKind.u64.wrap by_ = by_ := IntWalk.u64_in _ (by omega)
          have hm50 : 0 ≤ by_ % 50 ∧ by_ % 50 ≤ 49 := by omega
          obtain ⟨hm1, hm2⟩ := hm50
          go_upto_region 13 with (fail)
          obtain ⟨nx, hnx⟩ : ∃ nx, nx = lst + by_ % 50 := ⟨_, rfl⟩
          have hnx1 : lst ≤ nx := by omega
          have hnx2 : nx ≤ lst + 49 := by omega
          rw [← hnx]
          clear hu hm1 hm2 hnx
          have hk1 : k < 150 := by omega
          have HBG := Aside0.mk (HAl.out.st.beg hk1 hnx1 hnx2)
          have HOPN := Aside0.mk (fun h => HAl.out.st.opened hk1 hnx1 hnx2 h)
          have HBE := Aside0.mk (P.snaps_Begin.calls 100 a A' c' L nx (beg a L nx).1 (beg a L nx).2.1 (beg a L nx).2.2.1 (beg a L nx).2.2.2 W HAl.out.rd HAl.out.cap (begin_is 100 a nx L (by have := (right_len HAl.out.st.r).1; omega)))
          clear hbm ho0 hol hl49
          go_wp2_with fail
          refine HBE.out.mono ?_
          rintro e W3 ⟨v3, rfl, ho3, hb3⟩
          have HA3 := Aside0.mk (HAl.out.below hb3)
          clear HBE
          by_cases h64 : L.length = 64
          · rw [HBG.out, if_pos h64] at ho3 ⊢
            obtain ⟨A3, c3, rfl⟩ := Kd.R_slice ho3
            have HA4 := Aside0.mk ((HA3.out.below ((Below.refl W3.heap.size W3).alloc (Nat.le_refl _) (.cells #[.int .i64 0, .slice A3 0 c3] 24))).later)
            have z1 : (W3.alloc (.cells #[.int .i64 0, .slice A3 0 c3] 24)).cell? ⟨w2.heap.size, 1, none⟩ = some (.slice A' L.length c') := (blk_cell HA4.out.box 1).trans rfl
            rw [h64] at z1
            clear ho3 hb3 x0 x1 y0 y1 p0 p1
            go_wp2_with fail
            go_roundg (l.length - (k + 1))
            case measure => omega
            case rel => exact ⟨k + 1, a, L, A', c', D, M, lst, old, hlt, by omega, by omega, by go_num, rfl, rfl, HA4⟩
          · rw [HBG.out, if_neg h64] at ho3 ⊢
            have HST := Aside0.mk (HOPN.out h64)
            have HSO := Aside0.mk (HA3.out.so.put (s := nx) HA3.out.st.fresh)
            have HMO := Aside0.mk HA3.out.mo.put
            have hak := HA3.out.st.ak
            have ha1 := (right_len HA3.out.st.r).2.1
            have HKEY := Aside0.mk (key_i64 (x := a) (by omega) (by omega))
            have HWN := Aside0.mk (show (Lit.int .u64 nx).wf = true from WalkArith.wf_u64 ⟨by have := HA3.out.st.old0; have := HA3.out.st.oldl; omega, by have := HA3.out.st.lst49; omega⟩)
            have HNO := Aside0.mk (HA3.out.mo.2 a (Int.le_refl _))
            simp only at ho3 ⊢
            generalize L ++ [(⟨a, nx⟩ : H)] = L1 at *
            obtain ⟨A3, c3, ev, hl3, hC3⟩ := Kd.R_reads ho3
            subst ev
            have HR3 := Aside0.mk (Kd.R_bound ho3)
            have HL3 := Aside0.mk hl3
            obtain ⟨W4, hW4⟩ : ∃ W4, W4 = W3.alloc (.cells #[.int .i64 (a + 1), .slice A3 L1.length c3] 24) := ⟨_, rfl⟩
            have HF4 := Aside0.mk (show Fr (fun q => q = w2.heap.size ∨ q = w2.heap.size + 1 ∨ q = w2.heap.size + 1 + 1) W3 W4 by rw [hW4]; exact (Fr.refl _ _).alloc _)
            have HA4 := Aside0.mk (show At Try.prog w W4 w2.heap.size k a L A' c' D M lst old by rw [hW4]; exact HA3.out.below ((Below.refl W3.heap.size W3).alloc (Nat.le_refl _) _))
            have hN4 : W4.heap[W3.heap.size]? = some (.cells #[.int .i64 (a + 1), .slice A3 L1.length c3] 24 (0, 0)) := by rw [hW4]; exact heap_alloc_new W3 _
            have HW4 := Aside0.mk hW4
            have n0 : W4.cell? ⟨W3.heap.size, 0, none⟩ = some (.int .i64 (a + 1)) := (blk_cell hN4 0).trans rfl
            have n1 : W4.cell? ⟨W3.heap.size, 1, none⟩ = some (.slice A3 L1.length c3) := (blk_cell hN4 1).trans rfl
            have z0 : W4.cell? ⟨w2.heap.size, 0, none⟩ = some (.int .i64 a) := (blk_cell HA4.out.box 0).trans rfl
            have z1 : W4.cell? ⟨w2.heap.size, 1, none⟩ = some (.slice A' L.length c') := (blk_cell HA4.out.box 1).trans rfl
            have f0 : W4.frozen? ⟨w2.heap.size, 0, none⟩ = false := blk_frozen HA4.out.box 0
            have f1 : W4.frozen? ⟨w2.heap.size, 1, none⟩ = false := blk_frozen HA4.out.box 1
            have hlt1 : w2.heap.size + 1 + 1 < W.heap.size := HAl.out.mm.lt
            have hB3 : W.heap.size ≤ W3.heap.size := hb3.size
            have hBw : w.heap.size ≤ w2.heap.size := HB2.out.size
            clear x0 x1 y0 y1 p0 p1 hC3 hl3 ho3 hN4 hW4 HOPN HBG
            go_upto_region 17 with (fail)
            rw [← HW4.out]
            go_wp2_with (first | (at_lookup; refine lookup_bool_no _ rfl _ _ 51 rfl 3 4 (Maps.int_keyed Try.underlying3) Try.underlying51 Try.underlying4 (zero_bool _) (w2.heap.size + 1 + 1) k M rfl HA4.out.mm _ _ rfl HKEY.out HNO.out ?_) | (at_mapUpdate; refine wpList_mapUpdate_own _ rfl _ _ _ 51 rfl 3 4 (Maps.int_keyed Try.underlying3) Try.underlying51 _ (w2.heap.size + 1 + 1) k M rfl ((HA4.out.mm.setCell (a := ⟨w2.heap.size, 0, none⟩) (show w2.heap.size + 1 + 1 ≠ w2.heap.size by omega) _).setCell (a := ⟨w2.heap.size, 1, none⟩) (show w2.heap.size + 1 + 1 ≠ w2.heap.size by omega) _) (by unfold maxLen; omega) _ _ _ rfl rfl HKEY.out _ [] (plainElem_bool Try.underlying4 true) ?_; intro w5 hown5 hgrow5; have HO5 := Aside0.mk hown5; have HG5 := Aside0.mk hgrow5; clear hown5 hgrow5) | (at_mapUpdate; refine wpList_mapUpdate_own _ rfl _ _ _ 50 rfl 3 25 (Maps.int_keyed Try.underlying3) Try.underlying50 _ (w2.heap.size + 1) k D rfl (((HA4.out.ms.setCell (a := ⟨w2.heap.size, 0, none⟩) (show w2.heap.size + 1 ≠ w2.heap.size by omega) _).setCell (a := ⟨w2.heap.size, 1, none⟩) (show w2.heap.size + 1 ≠ w2.heap.size by omega) _).kept HG5.out (by simp)) (by unfold maxLen; omega) _ _ _ rfl rfl HKEY.out _ [] (plainElem_int Try.underlying25 HWN.out) ?_; intro w7 hown7 hgrow7; have HO7 := Aside0.mk hown7; have HG7 := Aside0.mk hgrow7; clear hown7 hgrow7))
            have HF7 := Aside0.mk ((((HF4.out.setCell (p := ⟨w2.heap.size, 0, none⟩) (.inl (.inl rfl)) (.int .i64 (a + 1))).setCell (p := ⟨w2.heap.size, 1, none⟩) (.inl (.inl rfl)) (.slice A3 L1.length c3)).grown HG5.out (fun q e => .inl (.inr (.inr (by cases e; rfl))))).grown HG7.out (fun q e => .inl (.inr (.inl (by cases e; rfl)))))
            have HBX := Aside0.mk (blk_set (blk_set HA4.out.box 0 (.int .i64 (a + 1))) 1 (.slice A3 L1.length c3))
            go_meet
            case rel =>
              refine ⟨a + 1, L1, A3, c3, _, _, nx, rfl, ⟨⟨HST.out, HSO.out, HMO.out, ?_, HL3.out, ?_, HO7.out, HO5.out.kept HG7.out (by simp), ?_⟩⟩⟩
              · have h1 := blk_lt HBX.out
                refine (HG7.out.block _ (Nat.lt_of_lt_of_le h1 HG5.out.size) (by simp)).trans ((HG5.out.block _ h1 (by simp; omega)).trans ?_)
                simpa using HBX.out
              · exact (Kd.R_reads' (Kd.R_kept HR3.out HF7.out.kept (fun q hq h => by have := hq.2.1; rcases h with h | h | h <;> omega))).2.2
              · exact HA3.out.bel.trans (HF7.out.toBelow (by omega) (fun q h => by rcases h with h | h | h <;> omega))
        · have e42 : decide (0 ≤ by_) = false := decide_eq_false hby
          have HNU := Aside0.mk (P.snaps_Nums.calls 100 a A' c' L (L.map (·.f0)) W HAl.out.rd HAl.out.cap (by rw [nums_is 100 a L (by have := (right_len HAl.out.st.r).1; omega), if_pos HAl.out.st.r]))
          have hneg : by_ < 0 := by omega
          go_wp2_with fail
          refine HNU.out.mono ?_
          rintro e W3 ⟨v3, rfl, ho3, hb3⟩
          obtain ⟨A3, c3, ev, hl3, hC3⟩ := Kd.R_reads ho3
          subst ev
          have HA3 := Aside0.mk (HAl.out.below hb3)
          rw [List.length_map] at *
          have h64 := (right_len HAl.out.st.r).1
          have p1' : W3.cell? ⟨B9, 1, none⟩ = some (.int .i64 at_) := (hb3.cell (World.block_lt_of_cell? W _ p1)).trans p1
          by_cases h0 : L.length = 0
          · rw [h0]
            have HAL := Aside0.mk HA3.out.later
            clear ho3 hb3 hl3 hC3 x0 x1 y0 y1 p0 p1
            go_wp2_with fail
            go_meet
            case rel => exact ⟨a, L, A', c', D, M, lst, rfl, HAL⟩
          · have hLp : 0 < L.length := by omega
            have e0 : decide ((0 : Int) < (L.length : Int)) = true := decide_eq_true (by omega)
            have e0' : decide (0 < L.length) = true := decide_eq_true hLp
            clear x0 x1 y0 y1 p0 p1 HNU
            go_upto_region 22 with (fail)
            have hu := IntKind.wrap_u64 at_
            have hu0 : 0 ≤ IntKind.u64.wrap at_ ∧ IntKind.u64.wrap at_ ≤ 18446744073709551615 := by rw [hu]; omega
            clear hu
            obtain ⟨u, hue⟩ : ∃ u, u = IntKind.u64.wrap at_ := ⟨_, rfl⟩
            rw [← hue] at hu0
            have hue2 := hue.symm
            clear hue
            have hul : IntKind.u64.wrap (L.length : Int) = (L.length : Int) := IntWalk.u64_in _ (by omega)
            obtain ⟨hu1, hu2⟩ := hu0
            have hq1 := Int.emod_nonneg u (show (L.length : Int) ≠ 0 by omega)
            have hq2 := Int.emod_lt_of_pos u (show 0 < (L.length : Int) by omega)
            obtain ⟨ad3, cc, eA3, _, hK3, hcell3⟩ := Kd.C_get hC3 0 (u % (L.length : Int)) hq1 (by simpa using hq2)
            subst eA3
            obtain ⟨j, hje⟩ : ∃ j, j = (u % (L.length : Int)).toNat := ⟨_, rfl⟩
            have hjl : j < L.length := by omega
            rw [← hje] at hK3 hcell3
            have hK3' : cc = [.int .i64 ((L.map (·.f0)).getD j 0)] := hK3
            have hgj : (L.map (·.f0)).getD j 0 = (L[j]).f0 := by simp [List.getD, hjl]
            obtain ⟨nm, hnm⟩ : ∃ nm, nm = (L[j]).f0 := ⟨_, rfl⟩
            rw [hgj, ← hnm] at hK3'
            subst hK3'
            have c9 : W3.cell? (ad3.add (u % (L.length : Int)).toNat) = some (.int .i64 nm) := by rw [← hje]; simpa using (show W3.cell? (ad3.add (j * 1 + 0)) = some (.int .i64 nm) from hcell3 0 _ rfl)
            have c9' : W3.cell? (ad3.add (wrap64 ((IntKind.u64.wrap at_).tmod (L.length : Int))).toNat) = some (.int .i64 nm) := by rw [hue2, Int.tmod_eq_emod_of_nonneg hu1, IntWalk.wrap64_in _ (by omega)]; exact c9
            have hwm : wrap64 ((IntKind.u64.wrap at_).tmod (L.length : Int)) = u % (L.length : Int) := by rw [hue2, Int.tmod_eq_emod_of_nonneg hu1, IntWalk.wrap64_in _ (by omega)]
            have hwm1 : 0 ≤ wrap64 ((IntKind.u64.wrap at_).tmod (L.length : Int)) := by rw [hwm]; exact hq1
            have hwm2 : wrap64 ((IntKind.u64.wrap at_).tmod (L.length : Int)) < (L.length : Int) := by rw [hwm]; exact hq2
            clear hwm hq1 hq2
            have HST := Aside0.mk (HA3.out.st.closed j)
            have HSO := Aside0.mk (show SOk (D.del (.int .i64 nm)) (L.eraseIdx j) by rw [hnm]; exact HA3.out.so.del HA3.out.st.apart j hjl)
            have HEND := Aside0.mk (snaps_End.calls a A' c' L nm a (L.eraseIdx j) 0 W3 HA3.out.rd HA3.out.cap (by rw [fin_is, hnm, fin_at HA3.out.st.r j hjl]))
            have HGONE := Aside0.mk (show start a (L.eraseIdx j) nm = (0, 271) from start_gone HST.out.r (fun h hh => by rw [hnm]; exact apart_erase HA3.out.st.apart j hjl h hh))
            have hnb : 0 < nm ∧ nm < a := by rw [hnm]; exact okFrom_num a L 0 0 (right_ok HA3.out.st.r) _ (List.getElem_mem hjl)
            have ha1 := (right_len HA3.out.st.r).2.2
            have HKEY := Aside0.mk (key_i64 (x := nm) (by omega) (by omega))
            have z0 : W3.cell? ⟨w2.heap.size, 0, none⟩ = some (.int .i64 a) := (blk_cell HA3.out.box 0).trans rfl
            have z1 : W3.cell? ⟨w2.heap.size, 1, none⟩ = some (.slice A' L.length c') := (blk_cell HA3.out.box 1).trans rfl
            clear ho3 hb3 hl3 hC3 hcell3 hK3 hgj hnm hje hnb ha1 hue2
            generalize L.eraseIdx j = L1 at *
            go_wp2_with fail
            refine HEND.out.mono ?_
            rintro e W4 ⟨v4, rfl, ho4, hb4⟩
            obtain ⟨A4, c4, ev, hl4, hC4⟩ := Kd.R_reads ho4
            subst ev
            have HR4 := Aside0.mk (Kd.R_bound ho4)
            have HL4 := Aside0.mk hl4
            obtain ⟨W5, hW5⟩ : ∃ W5, W5 = W4.alloc (.cells #[.int .i64 a, .slice A4 L1.length c4] 24) := ⟨_, rfl⟩
            have HF5 := Aside0.mk (show Fr (fun q => q = w2.heap.size ∨ q = w2.heap.size + 1 ∨ q = w2.heap.size + 1 + 1) W4 W5 by rw [hW5]; exact (Fr.refl _ _).alloc _)
            have HA5 := Aside0.mk (show At Try.prog w W5 w2.heap.size k a L A' c' D M lst old by rw [hW5]; exact (HA3.out.below hb4).below ((Below.refl W4.heap.size W4).alloc (Nat.le_refl _) _))
            have hN5 : W5.heap[W4.heap.size]? = some (.cells #[.int .i64 a, .slice A4 L1.length c4] 24 (0, 0)) := by rw [hW5]; exact heap_alloc_new W4 _
            have HW5 := Aside0.mk hW5
            have n0 : W5.cell? ⟨W4.heap.size, 0, none⟩ = some (.int .i64 a) := (blk_cell hN5 0).trans rfl
            have n1 : W5.cell? ⟨W4.heap.size, 1, none⟩ = some (.slice A4 L1.length c4) := (blk_cell hN5 1).trans rfl
            have HSTA := Aside0.mk (P.snaps_Start.calls 100 a A4 c4 L1 nm 0 271 W5 (by rw [hW5]; exact Kd.C_alloc hC4 _) hl4 (by rw [start_is 100 a nm L1 (by have := (right_len HST.out.r).1; omega), HGONE.out]))
            have hlt1 : w2.heap.size + 1 + 1 < W.heap.size := HAl.out.mm.lt
            have hB4 : W3.heap.size ≤ W4.heap.size := hb4.size
            have hB3 : w2.heap.size + 1 + 1 < W3.heap.size := HA3.out.mm.lt
            have hBw : w.heap.size ≤ w2.heap.size := HB2.out.size
            have hBw3 : w.heap.size ≤ W3.heap.size := HA3.out.bel.size
            have HBEL4 := Aside0.mk (HA3.out.below hb4)
            clear z0 z1 c9 c9' hl4 hC4 ho4 hb4 hW5
            go_upto_region 26 with (fail)
            rw [← HW5.out]
            go_wp2_with fail
            refine HSTA.out.mono ?_
            rintro e W6 ⟨rfl, hb6⟩
            have HF6 := Aside0.mk (HF5.out.below hb6)
            have HA6 := Aside0.mk (HA5.out.below hb6)
            have m0 : W6.cell? ⟨W4.heap.size, 0, none⟩ = some (.int .i64 a) := (blk_cell (blk_below hN5 hb6) 0).trans rfl
            have m1 : W6.cell? ⟨W4.heap.size, 1, none⟩ = some (.slice A4 L1.length c4) := (blk_cell (blk_below hN5 hb6) 1).trans rfl
            have f0 : W6.frozen? ⟨w2.heap.size, 0, none⟩ = false := blk_frozen HA6.out.box 0
            have f1 : W6.frozen? ⟨w2.heap.size, 1, none⟩ = false := blk_frozen HA6.out.box 1
            have z0 : W6.cell? ⟨w2.heap.size, 0, none⟩ = some (.int .i64 a) := (blk_cell HA6.out.box 0).trans rfl
            have z1 : W6.cell? ⟨w2.heap.size, 1, none⟩ = some (.slice A' L.length c') := (blk_cell HA6.out.box 1).trans rfl
            clear hb6 n0 n1 hN5
            go_wp2_with (at_delete; refine wpList_delete_own _ rfl _ _ 50 3 rfl 25 (Maps.int_keyed Try.underlying3) Try.underlying50 _ (w2.heap.size + 1) k D rfl ((HA6.out.ms.setCell (a := ⟨w2.heap.size, 0, none⟩) (show w2.heap.size + 1 ≠ w2.heap.size by omega) _).setCell (a := ⟨w2.heap.size, 1, none⟩) (show w2.heap.size + 1 ≠ w2.heap.size by omega) _) _ _ rfl HKEY.out ?_; intro w7 hown7 hturn7; have HO7 := Aside0.mk hown7; have HG7 := Aside0.mk hturn7.grown; clear hown7 hturn7)
            have HF7 := Aside0.mk (((HF6.out.setCell (p := ⟨w2.heap.size, 0, none⟩) (.inl (.inl rfl)) (.int .i64 a)).setCell (p := ⟨w2.heap.size, 1, none⟩) (.inl (.inl rfl)) (.slice A4 L1.length c4)).grown HG7.out (fun q e => .inl (.inr (.inl (by cases e; rfl)))))
            have HBX := Aside0.mk (blk_set (blk_set HA6.out.box 0 (.int .i64 a)) 1 (.slice A4 L1.length c4))
            go_meet
            case rel =>
              refine ⟨a, L1, A4, c4, _, M, lst, rfl, ⟨⟨HST.out, HSO.out, HA3.out.mo, ?_, HL4.out, ?_, HO7.out.mono (by omega), ?_, ?_⟩⟩⟩
              · refine (HG7.out.block _ (blk_lt HBX.out) (by simp)).trans ?_
                simpa using HBX.out
              · exact (Kd.R_reads' (Kd.R_kept HR4.out HF7.out.kept (fun q hq h => by have := hq.2.1; rcases h with h | h | h <;> omega))).2.2
              · exact (((HA6.out.mm.setCell (a := ⟨w2.heap.size, 0, none⟩) (show w2.heap.size + 1 + 1 ≠ w2.heap.size by omega) _).setCell (a := ⟨w2.heap.size, 1, none⟩) (show w2.heap.size + 1 + 1 ≠ w2.heap.size by omega) _).kept HG7.out (by simp)).mono (by omega)
              · exact HBEL4.out.bel.trans (HF7.out.toBelow (by omega) (fun q h => by rcases h with h | h | h <;> omega))
      case rest =>
        clear hmm
        obtain ⟨a1, L1, A1, c1, D1, M1, lst1, rfl, HA⟩ := hcut
        have HOL := Aside0.mk (P.snaps_Oldest.calls 100 a1 A1 c1 L1 (oldest L1).1 (oldest L1).2 wc HA.out.rd HA.out.cap (by rw [snapsoldest_is 100 a1 L1 (by have := (right_len HA.out.st.r).1; omega), if_pos HA.out.st.r]))
        have t0 : wc.cell? ⟨w2.heap.size, 0, none⟩ = some (.int .i64 a1) := (blk_cell HA.out.box 0).trans rfl
        have t1 : wc.cell? ⟨w2.heap.size, 1, none⟩ = some (.slice A1 L1.length c1) := (blk_cell HA.out.box 1).trans rfl
        go_wp2_with fail
        refine HOL.out.mono ?_
        rintro e w3 ⟨rfl, hb3⟩
        have HA3 := Aside0.mk (HA.out.below hb3)
        clear hb3 HA HOL t0 t1
        cases L1 with
        | nil =>
          have hsz : Maps.size D1 = 0 := HA3.out.so.2.1
          simp only [oldest]
          go_wp2_with (at_len; refine wpList_len_own _ rfl _ 50 rfl 3 25 Try.underlying50 _ (w2.heap.size + 1) (k + 1) D1 rfl HA3.out.ms ?_; rw [hsz])
          go_roundg (l.length - (k + 1))
          case measure => omega
          case rel => exact ⟨k + 1, a1, [], A1, c1, D1, M1, lst1, old, hlt, by omega, by omega, by go_num, rfl, rfl, HA3⟩
        | cons y t =>
          simp only [oldest]
          obtain ⟨hoy, hsty⟩ := HA3.out.st.told
          have HST := Aside0.mk hsty
          have hd : decide (y.f1 < old) = false := decide_eq_false (by omega)
          have hd2 : ¬ y.f1 < old := by omega
          generalize hL : y :: t = L1 at *
          have HA4 := Aside0.mk (show At Try.prog w w3 w2.heap.size (k + 1) a1 L1 A1 c1 D1 M1 lst1 y.f1 from { HA3.out with st := HST.out })
          clear hL HA3 hsty
          go_wp2_with (first | (at_range; refine wpList_range_own _ rfl _ 50 rfl 3 25 (Maps.int_keyed Try.underlying3) Try.underlying50 _ (w2.heap.size + 1) (k + 1) D1 rfl HA4.out.ms ?_; intro w5 hrg5 hg5 hs5; have HRG := Aside0.mk hrg5; have HB5 := Aside0.mk (show Below w3.heap.size w3 w5 from ⟨hg5.os, hg5.tape, hg5.output, hg5.size, fun q hq => hg5.block q hq (by simp)⟩); clear hrg5 hg5 hs5))
          go_loopg [] (Maps.size D1) (fun gg wr5 => ∃ (left : Lit → Bool) (cnt : Nat), cnt ≤ gg ∧ Aside0 (wr5.ranges Try.prog 3 (plainElem Try.prog 25) (w2.heap.size + 1) w3.heap.size (k + 1) D1 left cnt) ∧ Aside0 (Below w3.heap.size w3 wr5))
          case atStart => exact ⟨_, _, Nat.le_refl _, HRG, HB5⟩
          case round =>
            obtain ⟨left, cnt, hgc, HR5, HB6⟩ := hrel
            go_wp2_with (at_next; refine wpList_next_ranges_ii _ rfl _ rfl 3 25 _ _ (Maps.int_keyed Try.underlying3) Try.underlying3 Try.underlying25 _ w3.heap.size _ _ _ _ rfl HR5.out ?_ ?_)
            · intro hc0 hl0
              have HA7 := Aside0.mk (HA4.out.below HB6.out)
              clear HR5 HB6 HA4 hl0
              go_wp2_with fail
              go_roundg (l.length - (k + 1))
              case measure => omega
              case rel => exact ⟨k + 1, a1, L1, A1, c1, D1, M1, lst1, y.f1, hlt, by omega, by omega, by go_num, rfl, rfl, HA7⟩
            · intro x cv w7 cnt7 hwx hwc hlx hat hrg7 hlt7 hg7 hs7 hen
              obtain ⟨z, hz, hzx, hzc⟩ := HA4.out.so.get hat
              have HB7 := Aside0.mk (show Below w3.heap.size w3 w7 from ⟨hg7.os.trans HB6.out.os, hg7.tape.trans HB6.out.tape, hg7.output.trans HB6.out.output, Nat.le_trans HB6.out.size hg7.size, fun q hq => (hg7.block q (Nat.lt_of_lt_of_le hq HB6.out.size) (by simp; omega)).trans (HB6.out.block q hq)⟩)
              have HA7 := Aside0.mk (HA4.out.below HB7.out)
              have hlo := HA4.out.st.lo z hz
              rw [hzc] at hlo
              have HSTA := Aside0.mk (P.snaps_Start.calls 100 a1 A1 c1 L1 x cv 0 w7 HA7.out.rd HA7.out.cap (by rw [start_is 100 a1 x L1 (by have := (right_len HA4.out.st.r).1; omega), ← hzx, start_at HA4.out.st.r hz, hzc]))
              have t0 : w7.cell? ⟨w2.heap.size, 0, none⟩ = some (.int .i64 a1) := (blk_cell HA7.out.box 0).trans rfl
              have t1 : w7.cell? ⟨w2.heap.size, 1, none⟩ = some (.slice A1 L1.length c1) := (blk_cell HA7.out.box 1).trans rfl
              have HRG7 := Aside0.mk hrg7
              have hcv : ¬ cv < y.f1 := by omega
              have ecv : (cv == cv) = true := by simp
              clear hwx hwc hlx hat hrg7 hg7 hs7 hz hzx hzc HR5 HB6 hlo
              go_wp2_with fail
              refine HSTA.out.mono ?_
              rintro e w8 ⟨rfl, hb8⟩
              have HB8 := Aside0.mk (below_step HB7.out hb8)
              have HRG8 := Aside0.mk (HRG7.out.kept (grown_of_below hb8) (by simp) (by simp))
              clear hb8 HB7 HRG7 HSTA t0 t1 hen
              go_wp2_with fail
              go_roundg cnt7
              case measure => omega
              case rel => exact ⟨_, cnt7, Nat.le_refl _, HRG8, HB8⟩
    · have hltz : ¬ (k : Int) < (l.length : Int) := by omega
      have HALL := Aside0.mk (show ∃ W', W' = wr ∧ Below wr.heap.size wr W' from ⟨_, rfl, Below.refl _ _⟩)
      have hlen := (right_len HA.out.st.r).1
      have hsz : Maps.size D = L.length := HA.out.so.2.1
      go_upto_region 45 with (fail)
      obtain ⟨W, hW, hbW⟩ := HALL.out
      rw [← hW]
      clear hW
      have HAW := Aside0.mk (HA.out.below hbW)
      have t0 : W.cell? ⟨w2.heap.size, 0, none⟩ = some (.int .i64 a) := (blk_cell HAW.out.box 0).trans rfl
      have t1 : W.cell? ⟨w2.heap.size, 1, none⟩ = some (.slice A' L.length c') := (blk_cell HAW.out.box 1).trans rfl
      go_wp2_with fail
      refine (P.snaps_Check.calls 100 a A' c' L 0 W HAW.out.rd HAW.out.cap (by rw [check_is 100 a L (by omega), if_pos HA.out.st.r])).mono ?_
      rintro e w3 ⟨rfl, hb3⟩
      have HA3 := Aside0.mk (HAW.out.below hb3)
      have s0 : w3.cell? ⟨w2.heap.size, 0, none⟩ = some (.int .i64 a) := (blk_cell HA3.out.box 0).trans rfl
      have s1 : w3.cell? ⟨w2.heap.size, 1, none⟩ = some (.slice A' L.length c') := (blk_cell HA3.out.box 1).trans rfl
      clear hb3 t0 t1 HAW hbW
      go_wp2_with fail
      refine (P.snaps_Nums.calls 100 a A' c' L (L.map (·.f0)) w3 HA3.out.rd HA3.out.cap (by rw [nums_is 100 a L (by omega), if_pos HA.out.st.r])).mono ?_
      rintro e w4 ⟨v4, rfl, ho4, hb4⟩
      obtain ⟨A4, c4, ev, hl4, hC4⟩ := Kd.R_reads ho4
      subst ev
      rw [List.length_map]
      have HA4 := Aside0.mk (HA3.out.below hb4)
      clear hb4 ho4 hl4 hC4 s0 s1
      have hrun := HA4.out.ms.len Try.underlying50 3
      rw [hsz] at hrun
      go_wp2_with fail
      go_ret
      exact ⟨rfl, HA4.out.bel⟩

theorem snapsOldest.walk (A : Option Addr) (c : Nat) (l : List (Int × Int)) (W : World) (hl : l.length ≤ c) (hC : Kd.C (Kd.pair (Kd.int .i64) (Kd.int .i64)) W A l.length l) (wl : ∀ x ∈ l, (Lit.int .i64 x.1).wf = true ∧ (Lit.int .i64 x.2).wf = true) :
    Calls Try.prog 5 #[.slice A l.length c] W fun e W' => e = .returned (.bool true) ∧ Below W.heap.size W W' := by
  refine snapsOldest.go A c l W hC hl fun k => ?_
  by_cases hk : k < l.length
  · have h := (wl _ (List.getElem_mem hk)).1
    rw [List.getD, List.getElem?_eq_getElem hk, Option.getD_some]
    simp [Lit.wf] at h
    have h2 : IntKind.i64.max = 9223372036854775807 := by decide
    omega
  · rw [List.getD, List.getElem?_eq_none (by omega)]
    decide

end Go.Proofs.Ytfpicgefmgnfnaa.G
