/- quiverlaw01.FieldScans answers true, for every bytes and asks. -/
import Derived.Test.YtanijhlpneiebaaRI
import Derived.Test.YtanijhlpneiebaaG9
import Derived.Test.YtanijhlpneiebaaOp
import Derived.Deep.RegionWith
import Derived.Deep.CutRange
import Derived.Deep.CutBlock
import Derived.Deep.DeepCutAuto
namespace Go.Proofs.Ytanijhlpneiebaa.G
open Go.RowKit Go.Proofs.YtanijhlpneiebaaW.PrintWords Go.Proofs.YtanijhlpneiebaaW.PrintLast Go.Proofs.YtanijhlpneiebaaW.PrintMore
set_option linter.unusedVariables false
set_option linter.unusedSimpArgs false

/-- A row of bytes of one's own: an element can be read, and written. -/
theorem R_turn2 {w : World} {base : Nat} {ok : Nat → Prop} {A : Option Addr} {n c : Nat} {ys : List Int} (h : Kd.R (Kd.int .u8) 5 w base ok (.slice A n c) ys) (hn : ys.length = n) (j : Nat) (hj : j < n) :
    ∃ g, A = some ⟨g, 0, none⟩ ∧ ok g ∧ base ≤ g ∧ w.cell? ⟨g, j, none⟩ = some (.int .u8 (ys.getD j 0)) ∧ w.frozen? ⟨g, j, none⟩ = false ∧ ∀ u, Kd.R (Kd.int .u8) 5 (w.setCell ⟨g, j, none⟩ (.int .u8 u)) base ok (.slice A n c) (ys.set j u) := by
  obtain ⟨g, cap, e, hg, hgl, _⟩ := Kd.R_form h (by omega)
  injection e with e1 e2 e3
  subst e1 e3
  obtain ⟨cs, hcl, hM, hcell, hfr⟩ := Kd.R_elem h 0 (j : Int) (by omega) (by omega)
  rw [Int.toNat_natCast] at hM hcell hfr
  have hcs : cs = [.int .u8 (ys.getD j 0)] := hM
  subst hcs
  have h1 := hcell 0 _ rfl
  have h2 := hfr 0
  rw [show (Kd.int .u8).sz = 1 from rfl, Nat.mul_one, Nat.add_zero] at h1 h2
  refine ⟨g, rfl, h.1 g (by simp [Value.ownBlock]), hg, h1, h2, fun u => ?_⟩
  have := (Kd.R_seg (d := Kd.int .u8) (seg := [.int .u8 u]) (j := 0) (okp := fun _ => False) (x' := u) h (j : Int) (by omega) (by omega) hcl (by rw [Int.toNat_natCast]; exact hcell) (show 0 + 1 ≤ 1 by decide) rfl (fun k hk => hk.elim)).1
  rw [Int.toNat_natCast, show (Kd.int .u8).sz = 1 from rfl, Nat.mul_one, Nat.add_zero] at this
  exact this
theorem IsScan.away {w : World} {base : Nat} {ok : Nat → Prop} {g : Nat} {bs : List Int} {pl : Nat} {bad : Bool} (h : IsScan w base ok g bs pl bad) (p : Addr) (u : Value) (hne : ¬ ok p.block) : IsScan (w.setCell p u) base ok g bs pl bad :=
  h.step (fun k hk _ => Below.heap_setCell w p u k (fun e => hne (by rw [← e]; exact hk)))

set_option maxHeartbeats 2000000 in
set_option maxRecDepth 100000 in
theorem fieldScans_out (A : Option Addr) (c : Nat) (n : Nat) (A2 : Option Addr) (c2 : Nat) (q : Nat) (w : World) (hm : n ≤ 9223372036854775807) (hm2 : q ≤ 9223372036854775807) (h : 5000 < n ∨ 200 < q) :
    Calls Try.prog 6 #[.slice A n c, .slice A2 q c2] w fun e w' => e = .returned (.bool true) ∧ Below w.heap.size w w' := by
  by_cases c1 : 5000 < n
  · clear h
    go_enter Try.func6, Try.ntmps6
    go_wp2_with fail
    refine (wakes01.calls true _ rfl).mono ?_
    rintro e w1 ⟨rfl, hb1⟩
    have HB1 := Aside0.mk hb1
    clear hb1
    go_wp2_with fail
    go_returns
    exact ⟨rfl, HB1.out⟩
  · have c2' : 200 < q := by omega
    clear h
    go_enter Try.func6, Try.ntmps6
    go_wp2_with fail
    refine (wakes01.calls true _ rfl).mono ?_
    rintro e w1 ⟨rfl, hb1⟩
    have HB1 := Aside0.mk hb1
    clear hb1
    go_wp2_with fail
    go_returns
    exact ⟨rfl, HB1.out⟩

theorem quiet_end2 {e : Ending} {v : Value} {w w' : World} (h : e = .returned v ∧ Drawn0 w w') : e = .returned v ∧ ∃ m, w' = w.drewN m := by
  obtain ⟨h1, ⟨⟨m, rfl⟩⟩⟩ := h
  exact ⟨h1, m, rfl⟩
def kAsk2 : Kd (Int × Int) := Kd.pair (Kd.int .i64) (Kd.int .i64)

set_option maxHeartbeats 4000000 in
set_option maxRecDepth 100000 in
theorem fieldScans_in (A : Option Addr) (c : Nat) (l : List Int) (A2 : Option Addr) (c2 : Nat) (q : List (Int × Int)) (w : World) (hl : l.length ≤ c) (hC : Kd.C (Kd.int .u8) w A l.length l) (hby : ∀ x ∈ l, 0 ≤ x ∧ x ≤ 255) (hq : q.length ≤ c2) (hC2 : kAsk2.C w A2 q.length q) (h5 : l.length ≤ 5000) (h2 : q.length ≤ 200) :
    Calls Try.prog 6 #[.slice A l.length c, .slice A2 q.length c2] w fun e w' => e = .returned (.bool true) ∧ Below w.heap.size w w' := by
  have HC := Aside0.mk hC
  have HQ := Aside0.mk hC2
  have HBy := Aside0.mk hby
  have HLc := Aside0.mk hl
  clear hC hby hC2 hl
  go_enter Try.func6, Try.ntmps6
  go_wp2_with fail
  refine (wakes01.calls true _ rfl).mono ?_
  rintro e w1 ⟨rfl, hb1⟩
  have HB1 := Aside0.mk hb1
  clear hb1
  go_wp2_with (first
    | ((with_reducible refine gate_dst (N := 28) rfl ?_); refine Kd.R_lit (Kd.int .u8) (w0 := w) w.heap.size 5 ?hg (N := 28) ?hd (xs := ([] : List Int)) (inner := []) (ok := fun _ => True) (okp := fun _ => True) ?hr ?hp (fun _ hk => hk) trivial HB1.out (below_size HB1.out) (by simp) ?_; (case hd => rfl); (case hg => rfl); (case hr => first | (go_simp; done) | (go_simp; rfl)); (case hp => exact (Reps.none _ _)); intro v17 w1a ho10 hb hg_ hnew_; clear hg_ hnew_; have HO := Aside0.mk ho10; have HB1a := Aside0.mk hb; clear ho10 hb)
    | ((with_reducible refine gate_builtin (b := .append) (xs := #[.tmp 28, .tmp 29]) rfl ?_); at_builtin; refine Kd.R_append_rows (Kd.int .u8) (w0 := w) w.heap.size rfl (.tmp 28) (.tmp 29) 22 5 (.int .u8 0) 1 rfl Try.underlying22 info_u8 rfl (by decide) (by omega) v17 [] l A l.length c (fun _ => True) (fun _ => False) rfl rfl HO.out (Kd.C_below HC.out HB1a.out) (fun _ _ h => h) (fun _ h => h.elim) (fun _ _ => trivial) HB1a.out (below_size HB1a.out) (by simp; omega) ?_; intro v19 w2 ho hb hg hat; clear hg hat; obtain ⟨A3, c3, e2, hl2, hC2⟩ := Kd.R_reads ho; subst e2; have HO2 := Aside0.mk (Kd.R_mono (Kd.R_bound ho) (fun k hk => hk.2.2.1) : Kd.R (Kd.int .u8) 5 w2 w.heap.size (fun k => k < w2.heap.size) (.slice A3 l.length c3) l); have HC2 := Aside0.mk (show Kd.C (Kd.int .u8) w2 A3 l.length l from hC2); have HL2 := Aside0.mk (show l.length ≤ c3 from hl2); have HB2 := Aside0.mk hb; clear ho hb hC2 hl2))
  refine (ScRead A3 c3 l w2 HC2.out HL2.out (by omega) HBy.out).mono ?_
  rintro e w3 ⟨g, rfl, hI, hb3⟩
  have HI3 := Aside0.mk (hI.bound.mono (fun k hk => ⟨hk.2.1, hk.2.2⟩) : IsScan w3 w2.heap.size (fun k => w2.heap.size ≤ k ∧ k < w3.heap.size) g l 0 false)
  have HB3 := Aside0.mk (below_step HB2.out hb3)
  have HO3 := Aside0.mk (Kd.R_below HO2.out hb3)
  have HS2 := Aside0.mk HB2.out.size
  have HS3 := Aside0.mk hb3.size
  clear hI hb3
  obtain ⟨W4, hW4⟩ : ∃ W4, W4 = w3.alloc (.cells #[.slice A l.length c, .int .i64 0, .bool false] 43) := ⟨_, rfl⟩
  have HB4 := Aside0.mk (show Below w.heap.size w W4 by rw [hW4]; exact HB3.out.alloc HB3.out.size _)
  have HI4 := Aside0.mk (show IsScan W4 w2.heap.size (fun k => w2.heap.size ≤ k ∧ k < w3.heap.size) g l 0 false by rw [hW4]; exact HI3.out.step (fun k _ hk => Below.heap_alloc _ _ _ hk))
  have HO4 := Aside0.mk (show Kd.R (Kd.int .u8) 5 W4 w.heap.size (fun k => k < w2.heap.size) (.slice A3 l.length c3) l by rw [hW4]; exact Kd.R_alloc HO3.out _)
  have HG4 := Aside0.mk (show W4.heap[w3.heap.size]? = some (.cells (kS A l.length c 0 false) 43 (0, 0)) by rw [hW4]; exact heap_alloc_new w3 _)
  go_wp2_with fail
  rw [hW4.symm]
  clear hW4
  go_loopg [37] l.length (fun gg s37 wr => ∃ (j : Nat) (ys : List Int), j ≤ l.length ∧ l.length - j ≤ gg ∧ s37 = .int .i64 j ∧ ys.length = l.length ∧ Aside0 (Kd.R (Kd.int .u8) 5 wr w.heap.size (fun k => k < w2.heap.size) (.slice A3 l.length c3) ys) ∧ Aside0 (IsScan wr w2.heap.size (fun k => w2.heap.size ≤ k ∧ k < w3.heap.size) g l 0 false) ∧ Aside0 (wr.heap[w3.heap.size]? = some (.cells (kS A l.length c 0 false) 43 (0, 0))) ∧ Aside0 (Below w.heap.size w wr))
  case atStart => exact ⟨0, l, Nat.zero_le _, by omega, rfl, rfl, HO4, HI4, HG4, HB4⟩
  case round =>
    obtain ⟨j, ys, hj, hg, rfl, hyl, HO, HI, HG, HB⟩ := hrel
    by_cases hlt : j < l.length
    · have hltz : (j : Int) < (l.length : Int) := by omega
      obtain ⟨g0, rfl, hok, hbg, q1, f1, hset⟩ := R_turn2 HO.out hyl j hlt
      have HSET := Aside0.mk hset
      have HOK := Aside0.mk hok
      have HBG := Aside0.mk hbg
      have HYL := Aside0.mk hyl
      clear hset hok hbg hyl
      generalize ys.getD j 0 = x at *
      go_wp2_with fail
      have HO2' := Aside0.mk (HSET.out (bits .xor .u8 x 85))
      have HI2 := Aside0.mk (HI.out.away ⟨g0, j, none⟩ (.int .u8 (bits .xor .u8 x 85)) (by show ¬ (w2.heap.size ≤ g0 ∧ g0 < w3.heap.size); have := HOK.out; omega))
      have HG2 := Aside0.mk ((Below.heap_setCell wr ⟨g0, j, none⟩ (.int .u8 (bits .xor .u8 x 85)) w3.heap.size (by show ¬ w3.heap.size = g0; have := HOK.out; have := HS3.out; omega)).trans HG.out)
      have HB2' := Aside0.mk (HB.out.setCell (p := ⟨g0, j, none⟩) HBG.out (.int .u8 (bits .xor .u8 x 85)))
      go_roundg (l.length - (j + 1))
      case measure => omega
      case rel => exact ⟨j + 1, ys.set j (bits .xor .u8 x 85), hlt, by omega, by go_num, by rw [List.length_set]; exact HYL.out, HO2', HI2, HG2, HB2'⟩
    · obtain rfl : j = l.length := by omega
      clear HO hyl
      obtain ⟨wo, rfl⟩ : ∃ wo, wo = wr := ⟨_, rfl⟩
      have HQm := Kd.C_max HQ.out
      go_wp2_with fail
      go_loopg [49] q.length (fun gg s49 wr => ∃ (j pl : Nat) (bad : Bool), j ≤ q.length ∧ q.length - j ≤ gg ∧ s49 = .int .i64 j ∧ pl ≤ l.length ∧ Aside0 (IsScan wr w2.heap.size (fun k => w2.heap.size ≤ k ∧ k < w3.heap.size) g l pl bad) ∧ Aside0 (wr.heap[w3.heap.size]? = some (.cells (kS A l.length c pl bad) 43 (0, 0))) ∧ Aside0 (Below w.heap.size w wr))
      case atStart => exact ⟨0, 0, false, Nat.zero_le _, by omega, rfl, Nat.zero_le _, HI, HG, HB⟩
      case round =>
        obtain ⟨j, pl, bad, hj, hgj, rfl, hpl, HIr, HGr, HBr⟩ := hrel
        by_cases hlt : j < q.length
        · have hjz : (j : Int) < (q.length : Int) := by omega
          obtain ⟨ad, cc, rfl, hcl, hKc, hcell⟩ := Kd.C_get (Kd.C_below HQ.out HBr.out) (0, 0) j (by omega) (by omega)
          obtain ⟨x, y, hxy⟩ : ∃ x y, cc = [Value.int .i64 x, .int .i64 y] := by
            obtain ⟨_, _, rfl, rfl, rfl⟩ := hKc
            exact ⟨_, _, rfl⟩
          subst hxy
          have hx := hcell 0 _ rfl
          have hy := hcell 1 _ rfl
          rw [Int.toNat_natCast, show kAsk2.sz = 2 from rfl] at hx hy
          rw [Nat.add_zero] at hx
          rw [← add_add, show (ad.add (j * 2)).add 1 = { block := (ad.add (j * 2)).block, off := (ad.add (j * 2)).off + 1 } from rfl] at hy
          clear hcell hKc hcl
          obtain ⟨wo, rfl⟩ : ∃ wo, wo = wr := ⟨_, rfl⟩
          obtain ⟨W5, hW5⟩ : ∃ W5, W5 = wo.alloc (.cells #[.int .i64 x, .int .i64 y] 45) := ⟨_, rfl⟩
          have HI5 := Aside0.mk (show IsScan W5 w2.heap.size (fun k => w2.heap.size ≤ k ∧ k < w3.heap.size) g l pl bad by rw [hW5]; exact HIr.out.step (fun k _ hk => Below.heap_alloc _ _ _ hk))
          have HG5 := Aside0.mk (show W5.heap[w3.heap.size]? = some (.cells (kS A l.length c pl bad) 43 (0, 0)) by rw [hW5]; exact blk_alloc HGr.out _)
          have HA5 := Aside0.mk (show W5.heap[wo.heap.size]? = some (.cells #[.int .i64 x, .int .i64 y] 45 (0, 0)) by rw [hW5]; exact heap_alloc_new wo _)
          have HB5 := Aside0.mk (show Below w.heap.size w W5 by rw [hW5]; exact HBr.out.alloc HBr.out.size _)
          have s0 : W5.cell? ⟨wo.heap.size, 1, none⟩ = some (.int .i64 y) := (blk_cell HA5.out 1).trans rfl
          have t0 : W5.cell? ⟨w3.heap.size, 0, none⟩ = some (.slice A l.length c) := (blk_cell HG5.out 0).trans rfl
          have t1 : W5.cell? ⟨w3.heap.size, 1, none⟩ = some (.int .i64 (pl : Int)) := (blk_cell HG5.out 1).trans rfl
          have t2 : W5.cell? ⟨w3.heap.size, 2, none⟩ = some (.bool bad) := (blk_cell HG5.out 2).trans rfl
          go_upto_block 4 with fail
          rw [hW5.symm]
          clear hW5
          generalize Int.tmod (IntKind.u64.wrap x) 3 = m
          go_cut [11] (fun v11 wc => v11 = .bool true ∧ ∃ (p2 : Nat) (b2 : Bool), p2 ≤ l.length ∧ Aside0 (IsScan wc w2.heap.size (fun k => w2.heap.size ≤ k ∧ k < w3.heap.size) g l p2 b2 ∧ wc.heap[w3.heap.size]? = some (.cells (kS A l.length c p2 b2) 43 (0, 0)) ∧ Below w.heap.size w wc))
          case first =>
            by_cases hm0 : m = 0
            · subst hm0
              obtain ⟨p2, hp2⟩ : ∃ t, t = scPl l.length pl bad (sizeOr y) := ⟨_, rfl⟩
              obtain ⟨b2, hb2⟩ : ∃ t, t = scBad l.length pl bad (sizeOr y) := ⟨_, rfl⟩
              obtain ⟨X, hX⟩ : ∃ t, t = num (scTake l pl bad (sizeOr y)) := ⟨_, rfl⟩
              have HRN := Aside0.mk (fun W (h : Kd.C (Kd.int .u8) W A l.length l) => refNum.calls A c l pl bad y W h (by omega) hpl HBy.out)
              have HSN := Aside0.mk (fun W (h : IsScan W w2.heap.size (fun k => w2.heap.size ≤ k ∧ k < w3.heap.size) g l pl bad) => ScNum w2.heap.size _ g l pl bad y W h)
              have hp2l : p2 ≤ l.length := by rw [hp2]; exact scPl_le _ _ _ _ hpl
              rw [← hp2, ← hb2, ← hX] at HRN HSN
              clear hp2 hb2 hX
              go_wp2_with fail
              clear t0 t1 t2 hx hy
              refine (HRN.out W5 (Kd.C_below HC.out HB5.out)).mono ?_
              rintro e w6 ⟨rfl, hb6⟩
              have HI6 := Aside0.mk (HI5.out.step (fun k _ hk => hb6.block k hk))
              have HG6 := Aside0.mk ((hb6.block _ (blk_lt HG5.out)).trans HG5.out)
              have HA6 := Aside0.mk ((hb6.block _ (blk_lt HA5.out)).trans HA5.out)
              have HB6 := Aside0.mk (below_step HB5.out hb6)
              clear hb6
              obtain ⟨W7, hW7⟩ : ∃ W7, W7 = w6.alloc (.cells #[.slice A l.length c, .int .i64 (p2 : Int), .bool b2] 43) := ⟨_, rfl⟩
              have HI7 := Aside0.mk (show IsScan W7 w2.heap.size (fun k => w2.heap.size ≤ k ∧ k < w3.heap.size) g l pl bad by rw [hW7]; exact HI6.out.step (fun k _ hk => Below.heap_alloc _ _ _ hk))
              have HG7 := Aside0.mk (show W7.heap[w3.heap.size]? = some (.cells (kS A l.length c pl bad) 43 (0, 0)) by rw [hW7]; exact blk_alloc HG6.out _)
              have HA7 := Aside0.mk (show W7.heap[wo.heap.size]? = some (.cells #[.int .i64 x, .int .i64 y] 45 (0, 0)) by rw [hW7]; exact blk_alloc HA6.out _)
              have HN7 := Aside0.mk (show W7.heap[w6.heap.size]? = some (.cells (kS A l.length c p2 b2) 43 (0, 0)) by rw [hW7]; exact heap_alloc_new w6 _)
              have HB7 := Aside0.mk (show Below w.heap.size w W7 by rw [hW7]; exact HB6.out.alloc HB6.out.size _)
              go_upto_region 21 with (fail)
              rw [hW7.symm]
              clear hW7
              have HI7d := Aside0.mk HI7.out.drew
              have a1 : W7.cell? ⟨wo.heap.size, 1, none⟩ = some (.int .i64 y) := (blk_cell HA7.out 1).trans rfl
              have n0 : W7.cell? ⟨w6.heap.size, 0, none⟩ = some (.slice A l.length c) := (blk_cell HN7.out 0).trans rfl
              have n1 : W7.cell? ⟨w6.heap.size, 1, none⟩ = some (.int .i64 (p2 : Int)) := (blk_cell HN7.out 1).trans rfl
              have n2 : W7.cell? ⟨w6.heap.size, 2, none⟩ = some (.bool b2) := (blk_cell HN7.out 2).trans rfl
              have HL1 := Aside0.mk (HI7.out.bound.ok_g)
              have HL3 := Aside0.mk (show w3.heap.size < wo.heap.size from blk_lt HGr.out)
              have HL4 := Aside0.mk (show wo.heap.size < w6.heap.size from blk_lt HA6.out)
              go_region_with (go_at_call 28; refine (HSN.out _ HI7d.out).mono ?_; rintro e V1 ⟨rfl, hi1, hf1⟩; have HV := Aside0.mk hi1; have HGV := Aside0.mk (hf1.blk (show W7.drew.heap[w3.heap.size]? = _ from HG7.out) (fun e => by have := HL1.out.1.2; omega)); have HAV := Aside0.mk (hf1.blk (show W7.drew.heap[wo.heap.size]? = _ from HA7.out) (fun e => by have := HL1.out.1.2; have := HL3.out; omega)); have HNV := Aside0.mk (hf1.blk (show W7.drew.heap[w6.heap.size]? = _ from HN7.out) (fun e => by have := HL1.out.1.2; have := HL3.out; have := HL4.out; omega)); have HBV := Aside0.mk ((show Below w.heap.size w W7.drew from HB7.out.drew).trans (hf1.toBelow (show w.heap.size ≤ W7.drew.heap.size from HB7.out.size) (fun k hk => by subst hk; have := HL1.out.1.1; have := HS2.out; omega))); have v0 : V1.cell? ⟨w6.heap.size, 0, none⟩ = some (.slice A l.length c) := (blk_cell HNV.out 0).trans rfl; have v1 : V1.cell? ⟨w6.heap.size, 1, none⟩ = some (.int .i64 (p2 : Int)) := (blk_cell HNV.out 1).trans rfl; have v2 : V1.cell? ⟨w6.heap.size, 2, none⟩ = some (.bool b2) := (blk_cell HNV.out 2).trans rfl; have u0 : V1.cell? ⟨w3.heap.size, 0, none⟩ = some (.slice A l.length c) := (blk_cell HGV.out 0).trans rfl; have u1 : V1.cell? ⟨w3.heap.size, 1, none⟩ = some (.int .i64 (pl : Int)) := (blk_cell HGV.out 1).trans rfl; have u2 : V1.cell? ⟨w3.heap.size, 2, none⟩ = some (.bool bad) := (blk_cell HGV.out 2).trans rfl; have o0 : V1.frozen? ⟨w3.heap.size, 0, none⟩ = false := blk_frozen HGV.out 0; have o1 : V1.frozen? ⟨w3.heap.size, 1, none⟩ = false := blk_frozen HGV.out 1; have o2 : V1.frozen? ⟨w3.heap.size, 2, none⟩ = false := blk_frozen HGV.out 2; clear hi1 hf1)
              all_goals (go_wp2_with fail; go_meet)
              all_goals exact ⟨rfl, p2, b2, hp2l, ⟨((HV.out.away ⟨w3.heap.size, 0, none⟩ _ (fun h => Nat.lt_irrefl _ h.2)).away ⟨w3.heap.size, 1, none⟩ _ (fun h => Nat.lt_irrefl _ h.2)).away ⟨w3.heap.size, 2, none⟩ _ (fun h => Nat.lt_irrefl _ h.2), (by simpa using blk_set (blk_set (blk_set HGV.out 0 (.slice A l.length c)) 1 (.int .i64 (p2 : Int))) 2 (.bool b2)), ((HBV.out.setCell (p := ⟨w3.heap.size, 0, none⟩) HB3.out.size _).setCell (p := ⟨w3.heap.size, 1, none⟩) HB3.out.size _).setCell (p := ⟨w3.heap.size, 2, none⟩) HB3.out.size _⟩⟩
            · by_cases hm1 : m = 1
              · subst hm1
                obtain ⟨p2, hp2⟩ : ∃ t, t = scPl l.length pl bad (sizeOr y) := ⟨_, rfl⟩
                obtain ⟨b2, hb2⟩ : ∃ t, t = scBad l.length pl bad (sizeOr y) := ⟨_, rfl⟩
                obtain ⟨X, hX⟩ : ∃ t, t = signed y (num (scTake l pl bad (sizeOr y))) := ⟨_, rfl⟩
                have HRN := Aside0.mk (fun W (h : Kd.C (Kd.int .u8) W A l.length l) => refInt.calls A c l pl bad y W h (by omega) hpl HBy.out)
                have HSN := Aside0.mk (fun W (h : IsScan W w2.heap.size (fun k => w2.heap.size ≤ k ∧ k < w3.heap.size) g l pl bad) => ScInt w2.heap.size _ g l pl bad y W h)
                have hp2l : p2 ≤ l.length := by rw [hp2]; exact scPl_le _ _ _ _ hpl
                rw [← hp2, ← hb2, ← hX] at HRN HSN
                clear hp2 hb2 hX
                go_wp2_with fail
                clear t0 t1 t2 hx hy
                refine (HRN.out W5 (Kd.C_below HC.out HB5.out)).mono ?_
                rintro e w6 ⟨rfl, hb6⟩
                have HI6 := Aside0.mk (HI5.out.step (fun k _ hk => hb6.block k hk))
                have HG6 := Aside0.mk ((hb6.block _ (blk_lt HG5.out)).trans HG5.out)
                have HA6 := Aside0.mk ((hb6.block _ (blk_lt HA5.out)).trans HA5.out)
                have HB6 := Aside0.mk (below_step HB5.out hb6)
                clear hb6
                obtain ⟨W7, hW7⟩ : ∃ W7, W7 = w6.alloc (.cells #[.slice A l.length c, .int .i64 (p2 : Int), .bool b2] 43) := ⟨_, rfl⟩
                have HI7 := Aside0.mk (show IsScan W7 w2.heap.size (fun k => w2.heap.size ≤ k ∧ k < w3.heap.size) g l pl bad by rw [hW7]; exact HI6.out.step (fun k _ hk => Below.heap_alloc _ _ _ hk))
                have HG7 := Aside0.mk (show W7.heap[w3.heap.size]? = some (.cells (kS A l.length c pl bad) 43 (0, 0)) by rw [hW7]; exact blk_alloc HG6.out _)
                have HA7 := Aside0.mk (show W7.heap[wo.heap.size]? = some (.cells #[.int .i64 x, .int .i64 y] 45 (0, 0)) by rw [hW7]; exact blk_alloc HA6.out _)
                have HN7 := Aside0.mk (show W7.heap[w6.heap.size]? = some (.cells (kS A l.length c p2 b2) 43 (0, 0)) by rw [hW7]; exact heap_alloc_new w6 _)
                have HB7 := Aside0.mk (show Below w.heap.size w W7 by rw [hW7]; exact HB6.out.alloc HB6.out.size _)
                go_upto_region 24 with (fail)
                rw [hW7.symm]
                clear hW7
                have HI7d := Aside0.mk HI7.out.drew
                have a1 : W7.cell? ⟨wo.heap.size, 1, none⟩ = some (.int .i64 y) := (blk_cell HA7.out 1).trans rfl
                have n0 : W7.cell? ⟨w6.heap.size, 0, none⟩ = some (.slice A l.length c) := (blk_cell HN7.out 0).trans rfl
                have n1 : W7.cell? ⟨w6.heap.size, 1, none⟩ = some (.int .i64 (p2 : Int)) := (blk_cell HN7.out 1).trans rfl
                have n2 : W7.cell? ⟨w6.heap.size, 2, none⟩ = some (.bool b2) := (blk_cell HN7.out 2).trans rfl
                have HL1 := Aside0.mk (HI7.out.bound.ok_g)
                have HL3 := Aside0.mk (show w3.heap.size < wo.heap.size from blk_lt HGr.out)
                have HL4 := Aside0.mk (show wo.heap.size < w6.heap.size from blk_lt HA6.out)
                go_region_with (go_at_call 29; refine (HSN.out _ HI7d.out).mono ?_; rintro e V1 ⟨rfl, hi1, hf1⟩; have HV := Aside0.mk hi1; have HGV := Aside0.mk (hf1.blk (show W7.drew.heap[w3.heap.size]? = _ from HG7.out) (fun e => by have := HL1.out.1.2; omega)); have HAV := Aside0.mk (hf1.blk (show W7.drew.heap[wo.heap.size]? = _ from HA7.out) (fun e => by have := HL1.out.1.2; have := HL3.out; omega)); have HNV := Aside0.mk (hf1.blk (show W7.drew.heap[w6.heap.size]? = _ from HN7.out) (fun e => by have := HL1.out.1.2; have := HL3.out; have := HL4.out; omega)); have HBV := Aside0.mk ((show Below w.heap.size w W7.drew from HB7.out.drew).trans (hf1.toBelow (show w.heap.size ≤ W7.drew.heap.size from HB7.out.size) (fun k hk => by subst hk; have := HL1.out.1.1; have := HS2.out; omega))); have v0 : V1.cell? ⟨w6.heap.size, 0, none⟩ = some (.slice A l.length c) := (blk_cell HNV.out 0).trans rfl; have v1 : V1.cell? ⟨w6.heap.size, 1, none⟩ = some (.int .i64 (p2 : Int)) := (blk_cell HNV.out 1).trans rfl; have v2 : V1.cell? ⟨w6.heap.size, 2, none⟩ = some (.bool b2) := (blk_cell HNV.out 2).trans rfl; have u0 : V1.cell? ⟨w3.heap.size, 0, none⟩ = some (.slice A l.length c) := (blk_cell HGV.out 0).trans rfl; have u1 : V1.cell? ⟨w3.heap.size, 1, none⟩ = some (.int .i64 (pl : Int)) := (blk_cell HGV.out 1).trans rfl; have u2 : V1.cell? ⟨w3.heap.size, 2, none⟩ = some (.bool bad) := (blk_cell HGV.out 2).trans rfl; have o0 : V1.frozen? ⟨w3.heap.size, 0, none⟩ = false := blk_frozen HGV.out 0; have o1 : V1.frozen? ⟨w3.heap.size, 1, none⟩ = false := blk_frozen HGV.out 1; have o2 : V1.frozen? ⟨w3.heap.size, 2, none⟩ = false := blk_frozen HGV.out 2; clear hi1 hf1)
                all_goals (go_wp2_with fail; go_meet)
                all_goals exact ⟨rfl, p2, b2, hp2l, ⟨((HV.out.away ⟨w3.heap.size, 0, none⟩ _ (fun h => Nat.lt_irrefl _ h.2)).away ⟨w3.heap.size, 1, none⟩ _ (fun h => Nat.lt_irrefl _ h.2)).away ⟨w3.heap.size, 2, none⟩ _ (fun h => Nat.lt_irrefl _ h.2), (by simpa using blk_set (blk_set (blk_set HGV.out 0 (.slice A l.length c)) 1 (.int .i64 (p2 : Int))) 2 (.bool b2)), ((HBV.out.setCell (p := ⟨w3.heap.size, 0, none⟩) HB3.out.size _).setCell (p := ⟨w3.heap.size, 1, none⟩) HB3.out.size _).setCell (p := ⟨w3.heap.size, 2, none⟩) HB3.out.size _⟩⟩
              · have q0 : (m == 0) = false := by simp [hm0]
                have q1 : (m == 1) = false := by simp [hm1]
                obtain ⟨p2, hp2⟩ : ∃ t, t = scPl l.length pl bad y := ⟨_, rfl⟩
                obtain ⟨b2, hb2⟩ : ∃ t, t = scBad l.length pl bad y := ⟨_, rfl⟩
                obtain ⟨X, hX⟩ : ∃ t, t = scTake l pl bad y := ⟨_, rfl⟩
                have HRN := Aside0.mk (fun W (h : Kd.C (Kd.int .u8) W A l.length l) => refBytes.calls A c l pl bad y W h (by omega) hpl)
                have HSN := Aside0.mk (fun W (h : IsScan W w2.heap.size (fun k => w2.heap.size ≤ k ∧ k < w3.heap.size) g l pl bad) => ScBytes w2.heap.size _ g l pl bad y W h)
                have hp2l : p2 ≤ l.length := by rw [hp2]; exact scPl_le _ _ _ _ hpl
                rw [← hp2, ← hb2, ← hX] at HRN HSN
                have hXL := hX
                clear hp2 hb2 hX
                go_wp2_with fail
                clear t0 t1 t2 hx hy
                refine (HRN.out W5 (Kd.C_below HC.out HB5.out)).mono ?_
                rintro e w6 ⟨v6, rfl, ho6, hb6⟩
                obtain ⟨A6, c6, rfl⟩ := Kd.R_slice ho6
                have HR6 := Aside0.mk (Kd.R_mono (Kd.R_bound ho6) (fun k hk => hk.2.1) : Kd.R (Kd.int .u8) 5 w6 W5.heap.size (fun k => W5.heap.size ≤ k) (.slice A6 X.length c6) X)
                have hxm : X.length < 140737488355328 := by have := Kd.C_max (Kd.R_reads' ho6).2.2; rw [hXL]; unfold scTake; split <;> simp <;> omega
                have HSS := Aside0.mk (ref_same_self X hxm)
                clear ho6 hxm
                have HI6 := Aside0.mk (HI5.out.step (fun k _ hk => hb6.block k hk))
                have HG6 := Aside0.mk ((hb6.block _ (blk_lt HG5.out)).trans HG5.out)
                have HA6 := Aside0.mk ((hb6.block _ (blk_lt HA5.out)).trans HA5.out)
                have HB6 := Aside0.mk (below_step HB5.out hb6)
                clear hb6
                obtain ⟨W7, hW7⟩ : ∃ W7, W7 = w6.alloc (.cells #[.slice A l.length c, .int .i64 (p2 : Int), .bool b2] 43) := ⟨_, rfl⟩
                have HI7 := Aside0.mk (show IsScan W7 w2.heap.size (fun k => w2.heap.size ≤ k ∧ k < w3.heap.size) g l pl bad by rw [hW7]; exact HI6.out.step (fun k _ hk => Below.heap_alloc _ _ _ hk))
                have HG7 := Aside0.mk (show W7.heap[w3.heap.size]? = some (.cells (kS A l.length c pl bad) 43 (0, 0)) by rw [hW7]; exact blk_alloc HG6.out _)
                have HA7 := Aside0.mk (show W7.heap[wo.heap.size]? = some (.cells #[.int .i64 x, .int .i64 y] 45 (0, 0)) by rw [hW7]; exact blk_alloc HA6.out _)
                have HN7 := Aside0.mk (show W7.heap[w6.heap.size]? = some (.cells (kS A l.length c p2 b2) 43 (0, 0)) by rw [hW7]; exact heap_alloc_new w6 _)
                have HB7 := Aside0.mk (show Below w.heap.size w W7 by rw [hW7]; exact HB6.out.alloc HB6.out.size _)
                have HR7 := Aside0.mk (show Kd.R (Kd.int .u8) 5 W7 W5.heap.size (fun k => W5.heap.size ≤ k) (.slice A6 X.length c6) X by rw [hW7]; exact Kd.R_alloc HR6.out _)
                have HL5 := Aside0.mk (show w3.heap.size < W5.heap.size from blk_lt HG5.out)
                clear hXL
                go_upto_region 18 with (fail)
                rw [hW7.symm]
                clear hW7
                have HI7d := Aside0.mk HI7.out.drew
                have a1 : W7.cell? ⟨wo.heap.size, 1, none⟩ = some (.int .i64 y) := (blk_cell HA7.out 1).trans rfl
                have n0 : W7.cell? ⟨w6.heap.size, 0, none⟩ = some (.slice A l.length c) := (blk_cell HN7.out 0).trans rfl
                have n1 : W7.cell? ⟨w6.heap.size, 1, none⟩ = some (.int .i64 (p2 : Int)) := (blk_cell HN7.out 1).trans rfl
                have n2 : W7.cell? ⟨w6.heap.size, 2, none⟩ = some (.bool b2) := (blk_cell HN7.out 2).trans rfl
                have HL1 := Aside0.mk (HI7.out.bound.ok_g)
                have HL3 := Aside0.mk (show w3.heap.size < wo.heap.size from blk_lt HGr.out)
                have HL4 := Aside0.mk (show wo.heap.size < w6.heap.size from blk_lt HA6.out)
                go_region_with (first | (go_at_call 37; refine (HSN.out _ HI7d.out).mono ?_; rintro e V1 ⟨x8, rfl, hv8, hi1, hf1⟩; obtain ⟨A8, c8, rfl, hl8, hC8⟩ := Kd.R_reads hv8; have HC8 := Aside0.mk hC8; have HL8 := Aside0.mk hl8; have HRV := Aside0.mk (Kd.R_step HR7.out (w1 := V1) (fun k hk hkw => hf1.block (show k < W7.drew.heap.size from hkw) (fun e => by subst e; have := HL1.out.1.2; have := HL5.out; omega))); obtain ⟨_, hl6, hC6⟩ := Kd.R_reads' HRV.out; have HC6 := Aside0.mk hC6; have HL6 := Aside0.mk hl6; clear hv8 hC8 hl8 hC6 hl6; have HV := Aside0.mk hi1; have HGV := Aside0.mk (hf1.blk (show W7.drew.heap[w3.heap.size]? = _ from HG7.out) (fun e => by have := HL1.out.1.2; omega)); have HAV := Aside0.mk (hf1.blk (show W7.drew.heap[wo.heap.size]? = _ from HA7.out) (fun e => by have := HL1.out.1.2; have := HL3.out; omega)); have HNV := Aside0.mk (hf1.blk (show W7.drew.heap[w6.heap.size]? = _ from HN7.out) (fun e => by have := HL1.out.1.2; have := HL3.out; have := HL4.out; omega)); have HBV := Aside0.mk ((show Below w.heap.size w W7.drew from HB7.out.drew).trans (hf1.toBelow (show w.heap.size ≤ W7.drew.heap.size from HB7.out.size) (fun k hk => by subst hk; have := HL1.out.1.1; have := HS2.out; omega))); have v0 : V1.cell? ⟨w6.heap.size, 0, none⟩ = some (.slice A l.length c) := (blk_cell HNV.out 0).trans rfl; have v1 : V1.cell? ⟨w6.heap.size, 1, none⟩ = some (.int .i64 (p2 : Int)) := (blk_cell HNV.out 1).trans rfl; have v2 : V1.cell? ⟨w6.heap.size, 2, none⟩ = some (.bool b2) := (blk_cell HNV.out 2).trans rfl; have u0 : V1.cell? ⟨w3.heap.size, 0, none⟩ = some (.slice A l.length c) := (blk_cell HGV.out 0).trans rfl; have u1 : V1.cell? ⟨w3.heap.size, 1, none⟩ = some (.int .i64 (pl : Int)) := (blk_cell HGV.out 1).trans rfl; have u2 : V1.cell? ⟨w3.heap.size, 2, none⟩ = some (.bool bad) := (blk_cell HGV.out 2).trans rfl; have o0 : V1.frozen? ⟨w3.heap.size, 0, none⟩ = false := blk_frozen HGV.out 0; have o1 : V1.frozen? ⟨w3.heap.size, 1, none⟩ = false := blk_frozen HGV.out 1; have o2 : V1.frozen? ⟨w3.heap.size, 2, none⟩ = false := blk_frozen HGV.out 2; clear hi1 hf1) | (go_at_call 20; refine (P.quiverref01_Same.calls (X.length + 1) A8 c8 X A6 c6 X true _ HC8.out HL8.out HC6.out HL6.out HSS.out).mono ?_; rintro e V2 ⟨rfl, ⟨⟨nd, rfl⟩⟩⟩))
                all_goals (go_wp2_with fail; go_meet)
                all_goals first | exact ⟨rfl, p2, b2, hp2l, ⟨(((HV.out.drewN nd).away ⟨w3.heap.size, 0, none⟩ _ (fun h => Nat.lt_irrefl _ h.2)).away ⟨w3.heap.size, 1, none⟩ _ (fun h => Nat.lt_irrefl _ h.2)).away ⟨w3.heap.size, 2, none⟩ _ (fun h => Nat.lt_irrefl _ h.2), (by simpa using blk_set (blk_set (blk_set (blk_drewN HGV.out nd) 0 (.slice A l.length c)) 1 (.int .i64 (p2 : Int))) 2 (.bool b2)), (((pw_below_drewN HBV.out nd).setCell (p := ⟨w3.heap.size, 0, none⟩) HB3.out.size _).setCell (p := ⟨w3.heap.size, 1, none⟩) HB3.out.size _).setCell (p := ⟨w3.heap.size, 2, none⟩) HB3.out.size _⟩⟩ | exact ⟨rfl, p2, b2, hp2l, ⟨((HV.out.away ⟨w3.heap.size, 0, none⟩ _ (fun h => Nat.lt_irrefl _ h.2)).away ⟨w3.heap.size, 1, none⟩ _ (fun h => Nat.lt_irrefl _ h.2)).away ⟨w3.heap.size, 2, none⟩ _ (fun h => Nat.lt_irrefl _ h.2), (by simpa using blk_set (blk_set (blk_set HGV.out 0 (.slice A l.length c)) 1 (.int .i64 (p2 : Int))) 2 (.bool b2)), ((HBV.out.setCell (p := ⟨w3.heap.size, 0, none⟩) HB3.out.size _).setCell (p := ⟨w3.heap.size, 1, none⟩) HB3.out.size _).setCell (p := ⟨w3.heap.size, 2, none⟩) HB3.out.size _⟩⟩
          case rest =>
            obtain ⟨rfl, p2, b2, hp2l, HCUT⟩ := hcut
            have HIc := Aside0.mk HCUT.out.1
            have HGc := Aside0.mk HCUT.out.2.1
            have HBc := Aside0.mk HCUT.out.2.2
            clear HCUT
            have x0 : wc.cell? ⟨w3.heap.size, 0, none⟩ = some (.slice A l.length c) := (blk_cell HGc.out 0).trans rfl
            have x1 : wc.cell? ⟨w3.heap.size, 1, none⟩ = some (.int .i64 (p2 : Int)) := (blk_cell HGc.out 1).trans rfl
            have x2 : wc.cell? ⟨w3.heap.size, 2, none⟩ = some (.bool b2) := (blk_cell HGc.out 2).trans rfl
            have xb : (b2 != b2) = false := by simp
            have xp : ((p2 : Int) != (p2 : Int)) = false := by simp
            have xl : ((l.length : Int) - (p2 : Int) != (l.length : Int) - (p2 : Int)) = false := by simp
            go_wp2_with fail
            go_quiet (first
              | (go_at_call 30; refine Calls.quiet_of ((ScBadq _ _ g l p2 b2 _ (HIc.out.drewN _)).mono (fun e w' h => quiet_end2 h)))
              | (go_at_call 32; refine Calls.quiet_of ((ScPlace _ _ g l p2 b2 _ (HIc.out.drewN _)).mono (fun e w' h => quiet_end2 h)))
              | (go_at_call 31; refine Calls.quiet_of ((ScLeft _ _ g l p2 b2 _ (HIc.out.drewN _)).mono (fun e w' h => quiet_end2 h))))
            go_wp2_with fail
            go_roundg (q.length - (j + 1))
            case measure => omega
            case rel => exact ⟨j + 1, p2, b2, hlt, by omega, by go_num, hp2l, ⟨HIc.out.drewN _⟩, HGc, ⟨pw_below_drewN HBc.out _⟩⟩
        · obtain rfl : j = q.length := by omega
          go_wp2_with fail
          go_returns
          exact ⟨rfl, HBr.out⟩
end Go.Proofs.Ytanijhlpneiebaa.G
