/- Contract of the document's scan: Int. -/
import Derived.Test.YtanijhlpneiebaaRN
namespace Go.Proofs.Ytanijhlpneiebaa.G
open Go.RowKit Go.Proofs.YtanijhlpneiebaaW.PrintWords Go.Proofs.YtanijhlpneiebaaW.PrintLast Go.Proofs.YtanijhlpneiebaaW.PrintMore
set_option linter.unusedVariables false
set_option linter.unusedSimpArgs false

set_option maxHeartbeats 2000000 in
set_option maxRecDepth 100000 in
theorem refInt.calls (A : Option Addr) (c : Nat) (l : List Int) (pl : Nat) (bad : Bool) (n : Int) (w : World) (hr : Kd.C (Kd.int .u8) w A l.length l) (hq : l.length ≤ 1000000) (hp : pl ≤ l.length) (hby : ∀ x ∈ l, 0 ≤ x ∧ x ≤ 255) :
    Calls Try.prog 35 #[.agg (kS A l.length c pl bad), .int .i64 n] w fun e w' => e = .returned (.tuple #[.agg (kS A l.length c (scPl l.length pl bad (sizeOr n)) (scBad l.length pl bad (sizeOr n))), .int .i64 (signed n (num (scTake l pl bad (sizeOr n))))]) ∧ Below w.heap.size w w' := by
  have HR := Aside0.mk hr
  have HRN := Aside0.mk (fun W (h : Kd.C (Kd.int .u8) W A l.length l) => refNum.calls A c l pl bad n W h hq hp hby)
  have hrg := scTake_range l pl bad (sizeOr n) hby
  have hno : isSize n = false → num (scTake l pl bad (sizeOr n)) = 0 := fun h => by
    have : sizeOr n = -1 := by unfold sizeOr; rw [if_neg (fun e => by rw [isSize_iff.2 e] at h; cases h)]
    rw [this]
    unfold scTake fits
    simp [num]
  have hso : isSize n = true → sizeOr n = n := fun h => by unfold sizeOr; rw [if_pos (isSize_iff.1 h)]
  obtain ⟨x, hx⟩ : ∃ t, t = num (scTake l pl bad (sizeOr n)) := ⟨_, rfl⟩
  obtain ⟨p2, hp2⟩ : ∃ t, t = scPl l.length pl bad (sizeOr n) := ⟨_, rfl⟩
  obtain ⟨b2, hb2⟩ : ∃ t, t = scBad l.length pl bad (sizeOr n) := ⟨_, rfl⟩
  rw [← hx] at hrg hno
  rw [← hx, ← hp2, ← hb2] at HRN ⊢
  obtain ⟨r, hrr⟩ : ∃ r, r = signed n x := ⟨_, rfl⟩
  rw [← hrr]
  have HSZ := Aside0.mk (ref_size_is n)
  clear hx hp2 hb2 hr hby
  obtain ⟨W0, hW0⟩ : ∃ W0, W0 = (w.alloc (.cells (kS A l.length c pl bad) 43)).alloc (.cells #[.slice none 0 0, .int .i64 0, .bool false] 43) := ⟨_, rfl⟩
  have HB0 := Aside0.mk (show Below w.heap.size w W0 by rw [hW0]; exact below_alloc (below_alloc (Below.refl _ w) _) _)
  have HY0 := Aside0.mk (show W0.heap[w.heap.size + 1]? = some (.cells #[.slice none 0 0, .int .i64 0, .bool false] 43 (0, 0)) by rw [hW0, ← World.size_alloc w (.cells (kS A l.length c pl bad) 43)]; exact heap_alloc_new _ _)
  cases hs : isSize n with
  | false =>
    rw [hs] at HSZ
    have hx0 := hno hs
    subst hx0
    obtain rfl : r = 0 := by rw [hrr]; unfold signed; rw [hs]; rfl
    clear hrr hno hso hrg hs
    go_enter Try.func35, Try.ntmps35
    go_wp2_with fail
    rw [hW0.symm]
    clear hW0
    refine (HRN.out W0 (Kd.C_below HR.out HB0.out)).mono ?_
    rintro e w2 ⟨rfl, hb2⟩
    have HB2 := Aside0.mk hb2
    have HY2 := Aside0.mk ((hb2.block (w.heap.size + 1) (blk_lt HY0.out)).trans HY0.out)
    clear hb2
    obtain ⟨W3, hW3⟩ : ∃ W3, W3 = w2.alloc (.cells (kS A l.length c p2 b2) 43) := ⟨_, rfl⟩
    have HB3 := Aside0.mk (show Below W0.heap.size W0 W3 by rw [hW3]; exact HB2.out.alloc HB2.out.size _)
    have HZ3 := Aside0.mk (show W3.heap[w2.heap.size]? = some (.cells (kS A l.length c p2 b2) 43 (0, 0)) by rw [hW3]; exact heap_alloc_new w2 _)
    have HY3 := Aside0.mk (show W3.heap[w.heap.size + 1]? = some (.cells #[.slice none 0 0, .int .i64 0, .bool false] 43 (0, 0)) by rw [hW3]; exact blk_alloc HY2.out _)
    go_wp2_with fail
    rw [hW3.symm]
    clear hW3
    refine (P.quiverref01_Size.calls n _ _ HSZ.out).mono ?_
    rintro e w4 ⟨rfl, hd4⟩
    have HB4 := Aside0.mk (bdL' HB3.out hd4)
    have HD4 := Aside0.mk (bdL' (Below.refl W3.heap.size W3) hd4)
    have HZ4 := Aside0.mk ((HD4.out.block _ (blk_lt HZ3.out)).trans HZ3.out)
    have HY4 := Aside0.mk ((HD4.out.block _ (blk_lt HY3.out)).trans HY3.out)
    clear hd4
    have z0 : w4.cell? ⟨w2.heap.size, 0, none⟩ = some (.slice A l.length c) := (blk_cell HZ4.out 0).trans rfl
    have z1 : w4.cell? ⟨w2.heap.size, 1, none⟩ = some (.int .i64 (p2 : Int)) := (blk_cell HZ4.out 1).trans rfl
    have z2 : w4.cell? ⟨w2.heap.size, 2, none⟩ = some (.bool b2) := (blk_cell HZ4.out 2).trans rfl
    have d0 : w4.cell? ⟨w.heap.size + 1, 0, none⟩ = some (.slice none 0 0) := (blk_cell HY4.out 0).trans rfl
    have d1 : w4.cell? ⟨w.heap.size + 1, 1, none⟩ = some (.int .i64 0) := (blk_cell HY4.out 1).trans rfl
    have d2 : w4.cell? ⟨w.heap.size + 1, 2, none⟩ = some (.bool false) := (blk_cell HY4.out 2).trans rfl
    have g0 : w4.frozen? ⟨w.heap.size + 1, 0, none⟩ = false := blk_frozen HY4.out 0
    have g1 : w4.frozen? ⟨w.heap.size + 1, 1, none⟩ = false := blk_frozen HY4.out 1
    have g2 : w4.frozen? ⟨w.heap.size + 1, 2, none⟩ = false := blk_frozen HY4.out 2
    have HY5 := blk_set (blk_set (blk_set HY4.out 0 (.slice A l.length c)) 1 (.int .i64 (p2 : Int))) 2 (.bool b2)
    have e0 := (blk_cell HY5 0).trans (show _ = some (.slice A l.length c) from rfl)
    have e1 := (blk_cell HY5 1).trans (show _ = some (.int .i64 (p2 : Int)) from rfl)
    have e2 := (blk_cell HY5 2).trans (show _ = some (.bool b2) from rfl)
    clear HY5
    go_wp2_with fail
    (try simp only [Exit.inBlock, Exit.then])
    refine bodyPost_ret (by simp [results, Try.results35, go_sem, e0, e1, e2]; try rfl) rfl ?_
    refine ⟨by first | rfl | (simp; done) | (simp; omega), ?_⟩
    exact (((HB0.out.trans (HB4.out.mono HB0.out.size)).setCell (p := ⟨w.heap.size + 1, 0, none⟩) (Nat.le_succ _) _).setCell (p := ⟨w.heap.size + 1, 1, none⟩) (Nat.le_succ _) _).setCell (p := ⟨w.heap.size + 1, 2, none⟩) (Nat.le_succ _) _
  | true =>
    rw [hs] at HSZ
    have h' := isSize_iff.1 hs
    rw [hso hs] at hrg
    obtain ⟨hx0, hx1⟩ := hrg
    by_cases h8 : n = 8
    · subst h8
      have hx2 : x < 18446744073709551616 := hx1
      have hw : wrap64 x = r := by
        rw [hrr]
        unfold signed wrap64
        rw [if_pos hs]
        have e : (256 : Int) ^ (8 : Int).toNat = 18446744073709551616 := rfl
        rw [e]
        split <;> omega
      subst hw
      clear hrr hno hso hs h'
      go_enter Try.func35, Try.ntmps35
      go_wp2_with fail
      rw [hW0.symm]
      clear hW0
      refine (HRN.out W0 (Kd.C_below HR.out HB0.out)).mono ?_
      rintro e w2 ⟨rfl, hb2⟩
      have HB2 := Aside0.mk hb2
      have HY2 := Aside0.mk ((hb2.block (w.heap.size + 1) (blk_lt HY0.out)).trans HY0.out)
      clear hb2
      obtain ⟨W3, hW3⟩ : ∃ W3, W3 = w2.alloc (.cells (kS A l.length c p2 b2) 43) := ⟨_, rfl⟩
      have HB3 := Aside0.mk (show Below W0.heap.size W0 W3 by rw [hW3]; exact HB2.out.alloc HB2.out.size _)
      have HZ3 := Aside0.mk (show W3.heap[w2.heap.size]? = some (.cells (kS A l.length c p2 b2) 43 (0, 0)) by rw [hW3]; exact heap_alloc_new w2 _)
      have HY3 := Aside0.mk (show W3.heap[w.heap.size + 1]? = some (.cells #[.slice none 0 0, .int .i64 0, .bool false] 43 (0, 0)) by rw [hW3]; exact blk_alloc HY2.out _)
      go_wp2_with fail
      rw [hW3.symm]
      clear hW3
      refine (P.quiverref01_Size.calls 8 _ _ HSZ.out).mono ?_
      rintro e w4 ⟨rfl, hd4⟩
      have HB4 := Aside0.mk (bdL' HB3.out hd4)
      have HD4 := Aside0.mk (bdL' (Below.refl W3.heap.size W3) hd4)
      have HZ4 := Aside0.mk ((HD4.out.block _ (blk_lt HZ3.out)).trans HZ3.out)
      have HY4 := Aside0.mk ((HD4.out.block _ (blk_lt HY3.out)).trans HY3.out)
      clear hd4
      have z0 : w4.cell? ⟨w2.heap.size, 0, none⟩ = some (.slice A l.length c) := (blk_cell HZ4.out 0).trans rfl
      have z1 : w4.cell? ⟨w2.heap.size, 1, none⟩ = some (.int .i64 (p2 : Int)) := (blk_cell HZ4.out 1).trans rfl
      have z2 : w4.cell? ⟨w2.heap.size, 2, none⟩ = some (.bool b2) := (blk_cell HZ4.out 2).trans rfl
      have d0 : w4.cell? ⟨w.heap.size + 1, 0, none⟩ = some (.slice none 0 0) := (blk_cell HY4.out 0).trans rfl
      have d1 : w4.cell? ⟨w.heap.size + 1, 1, none⟩ = some (.int .i64 0) := (blk_cell HY4.out 1).trans rfl
      have d2 : w4.cell? ⟨w.heap.size + 1, 2, none⟩ = some (.bool false) := (blk_cell HY4.out 2).trans rfl
      have g0 : w4.frozen? ⟨w.heap.size + 1, 0, none⟩ = false := blk_frozen HY4.out 0
      have g1 : w4.frozen? ⟨w.heap.size + 1, 1, none⟩ = false := blk_frozen HY4.out 1
      have g2 : w4.frozen? ⟨w.heap.size + 1, 2, none⟩ = false := blk_frozen HY4.out 2
      have HY5 := blk_set (blk_set (blk_set HY4.out 0 (.slice A l.length c)) 1 (.int .i64 (p2 : Int))) 2 (.bool b2)
      have e0 := (blk_cell HY5 0).trans (show _ = some (.slice A l.length c) from rfl)
      have e1 := (blk_cell HY5 1).trans (show _ = some (.int .i64 (p2 : Int)) from rfl)
      have e2 := (blk_cell HY5 2).trans (show _ = some (.bool b2) from rfl)
      clear HY5
      go_wp2_with fail
      (try simp only [Exit.inBlock, Exit.then])
      refine bodyPost_ret (by simp [results, Try.results35, go_sem, e0, e1, e2]; try rfl) rfl ?_
      refine ⟨by first | rfl | (simp; done) | (simp; omega), ?_⟩
      exact (((HB0.out.trans (HB4.out.mono HB0.out.size)).setCell (p := ⟨w.heap.size + 1, 0, none⟩) (Nat.le_succ _) _).setCell (p := ⟨w.heap.size + 1, 1, none⟩) (Nat.le_succ _) _).setCell (p := ⟨w.heap.size + 1, 2, none⟩) (Nat.le_succ _) _
    · obtain ⟨s, rfl⟩ := Int.eq_ofNat_of_zero_le (show 0 ≤ n by omega)
      rw [Int.toNat_natCast] at hx1
      have hs8 : s ≤ 7 := by omega
      have hs1 : 1 ≤ s := by omega
      have hp7 : ∀ k, k ≤ s → (256 : Int) ^ k ≤ 72057594037927936 := fun k hk => pow_le256 (a := k) (b := 7) (by omega)
      have HP7 := Aside0.mk hp7
      have HPP := Aside0.mk (fun k : Nat => (Int.pow_pos (by decide) : (0 : Int) < 256 ^ k))
      have h8z : (s : Int) < 8 := by omega
      have hxd : 0 ≤ x / 256 := by omega
      have hxq : Int.tdiv x 256 = x / 256 := Int.tdiv_eq_ediv_of_nonneg hx0
      have hsg : r = if x < 256 ^ s / 2 then x else x - 256 ^ s := by
        rw [hrr]
        unfold signed
        rw [if_pos hs, Int.toNat_natCast]
      have HSG := Aside0.mk hsg
      have HX1 := Aside0.mk hx1
      clear hrr hno hso hs h' h8 hp7 hsg hx1
      go_enter Try.func35, Try.ntmps35
      go_wp2_with fail
      rw [hW0.symm]
      clear hW0
      refine (HRN.out W0 (Kd.C_below HR.out HB0.out)).mono ?_
      rintro e w2 ⟨rfl, hb2⟩
      have HB2 := Aside0.mk hb2
      have HY2 := Aside0.mk ((hb2.block (w.heap.size + 1) (blk_lt HY0.out)).trans HY0.out)
      clear hb2
      obtain ⟨W3, hW3⟩ : ∃ W3, W3 = w2.alloc (.cells (kS A l.length c p2 b2) 43) := ⟨_, rfl⟩
      have HB3 := Aside0.mk (show Below W0.heap.size W0 W3 by rw [hW3]; exact HB2.out.alloc HB2.out.size _)
      have HZ3 := Aside0.mk (show W3.heap[w2.heap.size]? = some (.cells (kS A l.length c p2 b2) 43 (0, 0)) by rw [hW3]; exact heap_alloc_new w2 _)
      have HY3 := Aside0.mk (show W3.heap[w.heap.size + 1]? = some (.cells #[.slice none 0 0, .int .i64 0, .bool false] 43 (0, 0)) by rw [hW3]; exact blk_alloc HY2.out _)
      go_wp2_with fail
      rw [hW3.symm]
      clear hW3
      refine (P.quiverref01_Size.calls s _ _ HSZ.out).mono ?_
      rintro e w4 ⟨rfl, hd4⟩
      have HB4 := Aside0.mk (bdL' HB3.out hd4)
      have HD4 := Aside0.mk (bdL' (Below.refl W3.heap.size W3) hd4)
      have HZ4 := Aside0.mk ((HD4.out.block _ (blk_lt HZ3.out)).trans HZ3.out)
      have HY4 := Aside0.mk ((HD4.out.block _ (blk_lt HY3.out)).trans HY3.out)
      clear hd4
      go_wp2_with fail
      go_loopg [8, 9] s (fun gg s8 s9 wr => ∃ k : Nat, k ≤ s ∧ s - k ≤ gg ∧ s9 = .int .i64 k ∧ s8 = .int .u64 (256 ^ k) ∧ Aside0 (wr = w4))
      case atStart => exact ⟨0, Nat.zero_le _, by omega, rfl, rfl, ⟨rfl⟩⟩
      case round =>
        obtain ⟨k, hk, hg, rfl, rfl, HE⟩ := hrel
        have he := HE.out
        subst he
        clear HE
        by_cases hlt : k < s
        · have hltz : (k : Int) < (s : Int) := by omega
          have h1 := HP7.out (k + 1) hlt
          have h2 := HPP.out k
          have HPW := Aside0.mk (Int.pow_succ (256 : Int) k)
          rw [HPW.out] at h1
          generalize (256 : Int) ^ k = y at *
          have h3 : 256 * y < 18446744073709551616 := by omega
          clear h1
          go_wp2_with fail
          go_roundg (s - (k + 1))
          case measure => omega
          case rel =>
            refine ⟨k + 1, hlt, by omega, by go_num, ?_, ⟨rfl⟩⟩
            rw [HPW.out]
            go_num
        · obtain rfl : k = s := by omega
          have h1 := HP7.out k (Nat.le_refl _)
          have h2 := HPP.out k
          have hx1 := HX1.out
          have hsg := HSG.out
          clear HP7 HPP HX1 HSG
          generalize (256 : Int) ^ k = y at *
          have hyq : Int.tdiv y 2 = y / 2 := Int.tdiv_eq_ediv_of_nonneg (by omega)
          by_cases hlo : x < y / 2
          · rw [if_pos hlo] at hsg
            subst hsg
            have z0 : wr.cell? ⟨w2.heap.size, 0, none⟩ = some (.slice A l.length c) := (blk_cell HZ4.out 0).trans rfl
            have z1 : wr.cell? ⟨w2.heap.size, 1, none⟩ = some (.int .i64 (p2 : Int)) := (blk_cell HZ4.out 1).trans rfl
            have z2 : wr.cell? ⟨w2.heap.size, 2, none⟩ = some (.bool b2) := (blk_cell HZ4.out 2).trans rfl
            have d0 : wr.cell? ⟨w.heap.size + 1, 0, none⟩ = some (.slice none 0 0) := (blk_cell HY4.out 0).trans rfl
            have d1 : wr.cell? ⟨w.heap.size + 1, 1, none⟩ = some (.int .i64 0) := (blk_cell HY4.out 1).trans rfl
            have d2 : wr.cell? ⟨w.heap.size + 1, 2, none⟩ = some (.bool false) := (blk_cell HY4.out 2).trans rfl
            have g0 : wr.frozen? ⟨w.heap.size + 1, 0, none⟩ = false := blk_frozen HY4.out 0
            have g1 : wr.frozen? ⟨w.heap.size + 1, 1, none⟩ = false := blk_frozen HY4.out 1
            have g2 : wr.frozen? ⟨w.heap.size + 1, 2, none⟩ = false := blk_frozen HY4.out 2
            have HY5 := blk_set (blk_set (blk_set HY4.out 0 (.slice A l.length c)) 1 (.int .i64 (p2 : Int))) 2 (.bool b2)
            have e0 := (blk_cell HY5 0).trans (show _ = some (.slice A l.length c) from rfl)
            have e1 := (blk_cell HY5 1).trans (show _ = some (.int .i64 (p2 : Int)) from rfl)
            have e2 := (blk_cell HY5 2).trans (show _ = some (.bool b2) from rfl)
            clear HY5
            go_wp2_with fail
            (try simp only [Exit.inBlock, Exit.then])
            refine bodyPost_ret (by simp [results, Try.results35, go_sem, e0, e1, e2]; try rfl) rfl ?_
            refine ⟨by first | rfl | (simp; done) | (simp; omega), ?_⟩
            exact (((HB0.out.trans (HB4.out.mono HB0.out.size)).setCell (p := ⟨w.heap.size + 1, 0, none⟩) (Nat.le_succ _) _).setCell (p := ⟨w.heap.size + 1, 1, none⟩) (Nat.le_succ _) _).setCell (p := ⟨w.heap.size + 1, 2, none⟩) (Nat.le_succ _) _
          · rw [if_neg hlo] at hsg
            have hge : y / 2 ≤ x := by omega
            subst hsg
            have z0 : wr.cell? ⟨w2.heap.size, 0, none⟩ = some (.slice A l.length c) := (blk_cell HZ4.out 0).trans rfl
            have z1 : wr.cell? ⟨w2.heap.size, 1, none⟩ = some (.int .i64 (p2 : Int)) := (blk_cell HZ4.out 1).trans rfl
            have z2 : wr.cell? ⟨w2.heap.size, 2, none⟩ = some (.bool b2) := (blk_cell HZ4.out 2).trans rfl
            have d0 : wr.cell? ⟨w.heap.size + 1, 0, none⟩ = some (.slice none 0 0) := (blk_cell HY4.out 0).trans rfl
            have d1 : wr.cell? ⟨w.heap.size + 1, 1, none⟩ = some (.int .i64 0) := (blk_cell HY4.out 1).trans rfl
            have d2 : wr.cell? ⟨w.heap.size + 1, 2, none⟩ = some (.bool false) := (blk_cell HY4.out 2).trans rfl
            have g0 : wr.frozen? ⟨w.heap.size + 1, 0, none⟩ = false := blk_frozen HY4.out 0
            have g1 : wr.frozen? ⟨w.heap.size + 1, 1, none⟩ = false := blk_frozen HY4.out 1
            have g2 : wr.frozen? ⟨w.heap.size + 1, 2, none⟩ = false := blk_frozen HY4.out 2
            have HY5 := blk_set (blk_set (blk_set HY4.out 0 (.slice A l.length c)) 1 (.int .i64 (p2 : Int))) 2 (.bool b2)
            have e0 := (blk_cell HY5 0).trans (show _ = some (.slice A l.length c) from rfl)
            have e1 := (blk_cell HY5 1).trans (show _ = some (.int .i64 (p2 : Int)) from rfl)
            have e2 := (blk_cell HY5 2).trans (show _ = some (.bool b2) from rfl)
            clear HY5
            go_wp2_with fail
            (try simp only [Exit.inBlock, Exit.then])
            refine bodyPost_ret (by simp [results, Try.results35, go_sem, e0, e1, e2]; try rfl) rfl ?_
            refine ⟨by first | rfl | (simp; done) | (simp; omega), ?_⟩
            exact (((HB0.out.trans (HB4.out.mono HB0.out.size)).setCell (p := ⟨w.heap.size + 1, 0, none⟩) (Nat.le_succ _) _).setCell (p := ⟨w.heap.size + 1, 1, none⟩) (Nat.le_succ _) _).setCell (p := ⟨w.heap.size + 1, 2, none⟩) (Nat.le_succ _) _

end Go.Proofs.Ytanijhlpneiebaa.G
