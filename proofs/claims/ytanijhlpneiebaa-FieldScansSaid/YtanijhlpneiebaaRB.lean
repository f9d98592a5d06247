/- Contracts of the document's scan: Bytes, Num, Int. -/
import Derived.Test.YtanijhlpneiebaaR1
namespace Go.Proofs.Ytanijhlpneiebaa.G
open Go.RowKit Go.Proofs.YtanijhlpneiebaaW.PrintWords Go.Proofs.YtanijhlpneiebaaW.PrintLast Go.Proofs.YtanijhlpneiebaaW.PrintMore
set_option linter.unusedVariables false
set_option linter.unusedSimpArgs false

theorem away1 {w : World} {base : Nat} {ok : Nat → Prop} {v : Value} {ys : List Int} (h : Kd.R (Kd.int .u8) 5 w base ok v ys) (g j : Nat) (u : Value) (hne : ¬ ok g) : Kd.R (Kd.int .u8) 5 (w.setCell ⟨g, j, none⟩ u) base ok v ys :=
  Kd.R_step h (fun k hk _ => Below.heap_setCell w ⟨g, j, none⟩ u k (fun e => hne (by have e2 : k = g := e; subst e2; exact hk)))
abbrev kS (A : Option Addr) (n c : Nat) (pl : Nat) (bad : Bool) : Array Value := #[.slice A n c, .int .i64 (pl : Int), .bool bad]

set_option maxHeartbeats 2000000 in
set_option maxRecDepth 100000 in
theorem refBytes_no (A : Option Addr) (c : Nat) (q : Nat) (pl : Nat) (bad : Bool) (n : Int) (w : World) (hq : q ≤ 1000000) (hp : pl ≤ q) (h : fits q pl bad n = false) :
    Calls Try.prog 36 #[.agg (kS A q c pl bad), .int .i64 n] w fun e w' => e = .returned (.tuple #[.agg (kS A q c pl true), .slice none 0 0]) ∧ Below w.heap.size w w' := by
  have HB := Aside0.mk (below_alloc (below_alloc (Below.refl _ w) (.cells (kS A q c pl true) 43)) (.cells (kS A q c pl true) 43))
  cases bad with
  | true =>
    clear h
    go_enter Try.func36, Try.ntmps36
    go_wp2_with fail
    go_returns
    exact ⟨rfl, HB.out⟩
  | false =>
    have h2 : n < 0 ∨ ((q : Int) - pl < n) := by
      cases hf : decide (0 ≤ n ∧ n ≤ (q : Int) - pl) with
      | true => have := of_decide_eq_true hf; rw [(fits_iff _ _ _ _).2 ⟨rfl, this.1, this.2⟩] at h; cases h
      | false => have := of_decide_eq_false hf; omega
    clear h
    by_cases h0 : n < 0
    · clear h2
      go_enter Try.func36, Try.ntmps36
      go_wp2_with fail
      go_returns
      exact ⟨rfl, HB.out⟩
    · have h3 : (q : Int) - pl < n := by omega
      have h4 : 0 ≤ n := by omega
      clear h2 h0
      go_enter Try.func36, Try.ntmps36
      go_wp2_with fail
      go_returns
      exact ⟨rfl, HB.out⟩

set_option maxHeartbeats 2000000 in
set_option maxRecDepth 100000 in
theorem refBytes_yes (A : Option Addr) (c : Nat) (l : List Int) (pl n : Nat) (w : World) (hr : Kd.C (Kd.int .u8) w A l.length l) (hq : l.length ≤ 1000000) (hpn : pl + n ≤ l.length) :
    Calls Try.prog 36 #[.agg (kS A l.length c pl false), .int .i64 (n : Int)] w fun e w' => ∃ v, e = .returned (.tuple #[.agg (kS A l.length c (pl + n) false), v]) ∧ Kd.R (Kd.int .u8) 5 w' w.heap.size (fun _ => True) v ((l.drop pl).take n) ∧ Below w.heap.size w w' := by
  have HR := Aside0.mk hr
  clear hr
  obtain ⟨W0, hW0⟩ : ∃ W0, W0 = (w.alloc (.cells (kS A l.length c pl false) 43)).alloc (.cells #[.slice none 0 0, .int .i64 0, .bool false] 43) := ⟨_, rfl⟩
  have HB0 := Aside0.mk (show Below w.heap.size w W0 by rw [hW0]; exact below_alloc (below_alloc (Below.refl _ w) _) _)
  have HX0 := Aside0.mk (show W0.heap[w.heap.size]? = some (.cells (kS A l.length c pl false) 43 (0, 0)) by rw [hW0]; exact blk_alloc (heap_alloc_new w _) _)
  have HY0 := Aside0.mk (show W0.heap[w.heap.size + 1]? = some (.cells #[.slice none 0 0, .int .i64 0, .bool false] 43 (0, 0)) by rw [hW0, ← World.size_alloc w (.cells (kS A l.length c pl false) 43)]; exact heap_alloc_new _ _)
  have HZ0 := Aside0.mk (show W0.heap.size = w.heap.size + 2 by rw [hW0, World.size_alloc, World.size_alloc])
  have h1 : (n : Int) ≤ (l.length : Int) - (pl : Int) := by omega
  have h2 : (0 : Int) ≤ (n : Int) := by omega
  go_enter Try.func36, Try.ntmps36
  go_wp2_with fail
  have HF := Aside0.mk (Kd.R_nil (Kd.int .u8) 5 W0 W0.heap.size (fun _ => True))
  rw [hW0.symm]
  go_loopg [6, 7] n (fun gg v6 s7 wr => ∃ k : Nat, k ≤ n ∧ n - k ≤ gg ∧ s7 = .int .i64 k ∧ Aside0 (Kd.R (Kd.int .u8) 5 wr W0.heap.size (fun _ => True) v6 ((l.drop pl).take k)) ∧ Aside0 (Below W0.heap.size W0 wr))
  case atStart => exact ⟨0, Nat.zero_le _, by omega, rfl, ⟨by rw [List.take_zero]; exact HF.out⟩, ⟨Below.refl _ _⟩⟩
  case round =>
    obtain ⟨k, hk, hg, rfl, HO, HB⟩ := hrel
    have hx := HB.out.block w.heap.size (by have := HZ0.out; omega)
    have HX := Aside0.mk (hx.trans HX0.out)
    have hy := HB.out.block (w.heap.size + 1) (by have := HZ0.out; omega)
    have HY := Aside0.mk (hy.trans HY0.out)
    clear hx hy
    have c0 : wr.cell? ⟨w.heap.size, 0, none⟩ = some (.slice A l.length c) := (blk_cell HX.out 0).trans rfl
    have c1 : wr.cell? ⟨w.heap.size, 1, none⟩ = some (.int .i64 (pl : Int)) := (blk_cell HX.out 1).trans rfl
    have c2 : wr.cell? ⟨w.heap.size, 2, none⟩ = some (.bool false) := (blk_cell HX.out 2).trans rfl
    by_cases hlt : k < n
    · have hltz : (k : Int) < (n : Int) := by omega
      obtain ⟨ad, rfl, hc⟩ := C_byte HR.out (pl + k) (by omega)
      replace hc := ((HB0.out.trans (HB.out.mono HB0.out.size)).cell (World.block_lt_of_cell? w _ hc)).trans hc
      have hi1 : (pl : Int) + (k : Int) < (l.length : Int) := by omega
      have hi0 : (0 : Int) ≤ (pl : Int) + (k : Int) := by omega
      have HTS := Aside0.mk (show (l.drop pl).take (k + 1) = (l.drop pl).take k ++ [rd l ((pl + k : Nat) : Int)] by
        rw [List.take_succ_eq_append_getElem (by rw [List.length_drop]; omega), List.getElem_drop, rd_at l (pl + k) (by omega)])
      have HLN := Aside0.mk (show ((l.drop pl).take k).length = k by rw [List.length_take, List.length_drop]; omega)
      generalize rd l ((pl + k : Nat) : Int) = x at *
      go_wp2_with ((with_reducible refine gate_builtin (b := .append) (xs := #[.tmp 30, .tmp 39]) rfl ?_); at_builtin; refine Kd.R_append (Kd.int .u8) (w0 := W0) W0.heap.size rfl (.tmp 30) (.tmp 39) 22 5 (.int .u8 0) 1 rfl Try.underlying22 info_u8 rfl (by decide) (by omega) u6 ((l.drop pl).take k) x [.int .u8 x] (fun _ => True) (fun _ => False) rfl rfl rfl (fun _ hk => hk.elim) (fun _ _ => trivial) HO.out HB.out (below_size HB.out) (by rw [HLN.out]; omega) ?_; intro v5 w5 ho hb hg2 hat; rw [← HTS.out] at ho; have HO2 := Aside0.mk ho; have HB2 := Aside0.mk hb; clear ho hb hg2 hat)
      go_roundg (n - (k + 1))
      case measure => omega
      case rel => exact ⟨k + 1, hlt, by omega, by go_num, HO2, HB2⟩
    · obtain rfl : k = n := by omega
      have f1 : wr.frozen? ⟨w.heap.size, 1, none⟩ = false := blk_frozen HX.out 1
      have d0 : wr.cell? ⟨w.heap.size + 1, 0, none⟩ = some (.slice none 0 0) := (blk_cell HY.out 0).trans rfl
      have d1 : wr.cell? ⟨w.heap.size + 1, 1, none⟩ = some (.int .i64 0) := (blk_cell HY.out 1).trans rfl
      have d2 : wr.cell? ⟨w.heap.size + 1, 2, none⟩ = some (.bool false) := (blk_cell HY.out 2).trans rfl
      have g0 : wr.frozen? ⟨w.heap.size + 1, 0, none⟩ = false := blk_frozen HY.out 0
      have g1 : wr.frozen? ⟨w.heap.size + 1, 1, none⟩ = false := blk_frozen HY.out 1
      have g2 : wr.frozen? ⟨w.heap.size + 1, 2, none⟩ = false := blk_frozen HY.out 2
      have HY1 := (Below.heap_setCell wr ⟨w.heap.size, 1, none⟩ (.int .i64 ((pl : Int) + (k : Int))) (w.heap.size + 1) (Nat.succ_ne_self _)).trans HY.out
      have HY4 := blk_set (blk_set (blk_set HY1 0 (.slice A l.length c)) 1 (.int .i64 ((pl : Int) + (k : Int)))) 2 (.bool false)
      have e0 := (blk_cell HY4 0).trans (show _ = some (.slice A l.length c) from rfl)
      have e1 := (blk_cell HY4 1).trans (show _ = some (.int .i64 ((pl : Int) + (k : Int))) from rfl)
      have e2 := (blk_cell HY4 2).trans (show _ = some (.bool false) from rfl)
      clear HY1 HY4
      go_wp2_with fail
      (try simp only [Exit.inBlock, Exit.then])
      refine bodyPost_ret (by simp [results, Try.results36, go_sem, e0, e1, e2]; try rfl) rfl ?_
      have hz := HZ0.out
      refine ⟨_, rfl, ?_, ?_⟩
      · have h := Kd.R_mono (Kd.R_bound HO.out) (ok' := fun k => W0.heap.size ≤ k) (fun k hk => hk.2.1)
        exact Kd.R_mono (Kd.R_lower (away1 (away1 (away1 (away1 h _ _ _ (by omega)) _ _ _ (by omega)) _ _ _ (by omega)) _ _ _ (by omega)) HB0.out.size) (fun _ _ => trivial)
      · exact ((((HB0.out.trans (HB.out.mono HB0.out.size)).setCell (p := ⟨w.heap.size, 1, none⟩) (Nat.le_refl _) _).setCell (p := ⟨w.heap.size + 1, 0, none⟩) (Nat.le_succ _) _).setCell (p := ⟨w.heap.size + 1, 1, none⟩) (Nat.le_succ _) _).setCell (p := ⟨w.heap.size + 1, 2, none⟩) (Nat.le_succ _) _

theorem refBytes.calls (A : Option Addr) (c : Nat) (l : List Int) (pl : Nat) (bad : Bool) (n : Int) (w : World) (hr : Kd.C (Kd.int .u8) w A l.length l) (hq : l.length ≤ 1000000) (hp : pl ≤ l.length) :
    Calls Try.prog 36 #[.agg (kS A l.length c pl bad), .int .i64 n] w fun e w' => ∃ v, e = .returned (.tuple #[.agg (kS A l.length c (scPl l.length pl bad n) (scBad l.length pl bad n)), v]) ∧ Kd.R (Kd.int .u8) 5 w' w.heap.size (fun _ => True) v (scTake l pl bad n) ∧ Below w.heap.size w w' := by
  cases hf : fits l.length pl bad n with
  | false =>
    rw [scPl_no hf, scBad_no hf, scTake_no hf]
    refine (refBytes_no A c l.length pl bad n w hq hp hf).mono ?_
    rintro e w1 ⟨rfl, hb⟩
    exact ⟨_, rfl, Kd.R_nil _ _ _ _ _, hb⟩
  | true =>
    obtain ⟨rfl, h0, h1⟩ := (fits_iff _ _ _ _).1 hf
    obtain ⟨m, rfl⟩ := Int.eq_ofNat_of_zero_le h0
    rw [scPl_yes hf, scBad_yes hf, scTake_yes hf]
    exact refBytes_yes A c l pl m w hr hq (by omega)

end Go.Proofs.Ytanijhlpneiebaa.G
