/- Contract of the document's scan: Num. -/
import Derived.Test.YtanijhlpneiebaaRB
namespace Go.Proofs.Ytanijhlpneiebaa.G
open Go.RowKit Go.Proofs.YtanijhlpneiebaaW.PrintWords Go.Proofs.YtanijhlpneiebaaW.PrintLast Go.Proofs.YtanijhlpneiebaaW.PrintMore
set_option linter.unusedVariables false
set_option linter.unusedSimpArgs false

theorem bdL' {g : Nat} {w w1 w2 : World} (h : Below g w w1) (hd : Drawn0 w1 w2) : Below g w w2 := by
  obtain ⟨⟨nd, rfl⟩⟩ := hd
  exact pw_below_drewN h nd
theorem scPl_le (q pl : Nat) (bad : Bool) (n : Int) (h : pl ≤ q) : scPl q pl bad n ≤ q := by
  unfold scPl
  split
  · rename_i hf
    have := (fits_iff _ _ _ _).1 hf
    omega
  · exact h
theorem scTake_len (l : List Int) (pl : Nat) (bad : Bool) (n : Int) : (scTake l pl bad (sizeOr n)).length ≤ 8 := by
  have h8 : (sizeOr n).toNat ≤ 8 := by unfold sizeOr; split <;> omega
  unfold scTake
  split
  · rw [List.length_take]; omega
  · simp
theorem scTake_mem (l : List Int) (pl : Nat) (bad : Bool) (n : Int) (hby : ∀ x ∈ l, 0 ≤ x ∧ x ≤ 255) : ∀ x ∈ scTake l pl bad n, 0 ≤ x ∧ x ≤ 255 := fun x hx => by
  unfold scTake at hx
  split at hx
  · exact hby x (List.mem_of_mem_drop (List.mem_of_mem_take hx))
  · cases hx
theorem num_take (t : List Int) (hby : ∀ x ∈ t, 0 ≤ x ∧ x ≤ 255) (ht : t.length ≤ 8) (k : Nat) (hk : k < t.length) : num (t.take (k + 1)) = num (t.take k) * 256 + rd t k ∧ 0 ≤ num (t.take k) ∧ num (t.take k) < 72057594037927936 ∧ 0 ≤ rd t k ∧ rd t k ≤ 255 := by
  have h1 := num_range (t.take k) (fun x hx => hby x (List.mem_of_mem_take hx))
  have h2 : (256 : Int) ^ (t.take k).length ≤ 256 ^ 7 := pow_le256 (by rw [List.length_take]; omega)
  have h3 := hby _ (List.getElem_mem hk)
  refine ⟨by rw [List.take_succ_eq_append_getElem hk, num_snoc, rd_at t k hk], h1.1, ?_, ?_, ?_⟩
  · have : (256 : Int) ^ 7 = 72057594037927936 := rfl
    omega
  · rw [rd_at t k hk]; exact h3.1
  · rw [rd_at t k hk]; exact h3.2

set_option maxHeartbeats 2000000 in
set_option maxRecDepth 100000 in
theorem refNum.calls (A : Option Addr) (c : Nat) (l : List Int) (pl : Nat) (bad : Bool) (n : Int) (w : World) (hr : Kd.C (Kd.int .u8) w A l.length l) (hq : l.length ≤ 1000000) (hp : pl ≤ l.length) (hby : ∀ x ∈ l, 0 ≤ x ∧ x ≤ 255) :
    Calls Try.prog 34 #[.agg (kS A l.length c pl bad), .int .i64 n] w fun e w' => e = .returned (.tuple #[.agg (kS A l.length c (scPl l.length pl bad (sizeOr n)) (scBad l.length pl bad (sizeOr n))), .int .u64 (num (scTake l pl bad (sizeOr n)))]) ∧ Below w.heap.size w w' := by
  have HR := Aside0.mk hr
  obtain ⟨t, ht⟩ : ∃ t, t = scTake l pl bad (sizeOr n) := ⟨_, rfl⟩
  obtain ⟨p2, hp2⟩ : ∃ t, t = scPl l.length pl bad (sizeOr n) := ⟨_, rfl⟩
  obtain ⟨b2, hb2⟩ : ∃ t, t = scBad l.length pl bad (sizeOr n) := ⟨_, rfl⟩
  have htl : t.length ≤ 8 := by rw [ht]; exact scTake_len l pl bad n
  have HNT := Aside0.mk (num_take t (by rw [ht]; exact scTake_mem l pl bad _ hby) htl)
  have HRB := Aside0.mk (fun W (h : Kd.C (Kd.int .u8) W A l.length l) => refBytes.calls A c l pl bad (sizeOr n) W h hq hp)
  rw [← ht, ← hp2, ← hb2] at HRB ⊢
  clear ht hp2 hb2 hr hby
  obtain ⟨W0, hW0⟩ : ∃ W0, W0 = (w.alloc (.cells (kS A l.length c pl bad) 43)).alloc (.cells #[.slice none 0 0, .int .i64 0, .bool false] 43) := ⟨_, rfl⟩
  have HB0 := Aside0.mk (show Below w.heap.size w W0 by rw [hW0]; exact below_alloc (below_alloc (Below.refl _ w) _) _)
  have HX0 := Aside0.mk (show W0.heap[w.heap.size]? = some (.cells (kS A l.length c pl bad) 43 (0, 0)) by rw [hW0]; exact blk_alloc (heap_alloc_new w _) _)
  have HY0 := Aside0.mk (show W0.heap[w.heap.size + 1]? = some (.cells #[.slice none 0 0, .int .i64 0, .bool false] 43 (0, 0)) by rw [hW0, ← World.size_alloc w (.cells (kS A l.length c pl bad) 43)]; exact heap_alloc_new _ _)
  have HSZ := Aside0.mk (ref_size_is n)
  have hso : sizeOr n = if isSize n = true then n else -1 := by
    unfold sizeOr
    by_cases h : isSize n = true
    · rw [if_pos h, if_pos (isSize_iff.1 h)]
    · rw [if_neg h, if_neg (fun e => h (isSize_iff.2 e))]
  obtain ⟨so, hsoe⟩ : ∃ so, so = sizeOr n := ⟨_, rfl⟩
  rw [← hsoe] at HRB hso
  clear hsoe
  have HSO := Aside0.mk hso
  clear hso
  cases hs : isSize n
  all_goals
    rw [hs] at HSZ HSO
    have hso := HSO.out
    (first | rw [if_neg (by decide)] at hso | rw [if_pos rfl] at hso)
    rw [hso] at HRB
    clear hso HSO
    go_enter Try.func34, Try.ntmps34
    go_wp2_with fail
    rw [hW0.symm]
    clear hW0
    refine (P.quiverref01_Size.calls n _ _ HSZ.out).mono ?_
    rintro e w1 ⟨rfl, hd1⟩
    have HB1 := Aside0.mk (bdL' (Below.refl W0.heap.size W0) hd1)
    have HX1 := Aside0.mk ((HB1.out.block w.heap.size (blk_lt HX0.out)).trans HX0.out)
    have HY1 := Aside0.mk ((HB1.out.block (w.heap.size + 1) (blk_lt HY0.out)).trans HY0.out)
    clear hd1
    have q0 : w1.cell? ⟨w.heap.size, 0, none⟩ = some (.slice A l.length c) := (blk_cell HX1.out 0).trans rfl
    have q1 : w1.cell? ⟨w.heap.size, 1, none⟩ = some (.int .i64 (pl : Int)) := (blk_cell HX1.out 1).trans rfl
    have q2 : w1.cell? ⟨w.heap.size, 2, none⟩ = some (.bool bad) := (blk_cell HX1.out 2).trans rfl
    go_wp2_with fail
    refine (HRB.out w1 (Kd.C_below HR.out (HB0.out.trans (HB1.out.mono HB0.out.size)))).mono ?_
    rintro e w2 ⟨v2, rfl, ho2, hb2⟩
    obtain ⟨A2, c2, rfl, hl2, hC2⟩ := Kd.R_reads ho2
    have HB2 := Aside0.mk (HB1.out.trans (hb2.mono HB1.out.size))
    have HY2 := Aside0.mk ((HB2.out.block (w.heap.size + 1) (blk_lt HY0.out)).trans HY0.out)
    have HC2 := Aside0.mk hC2
    clear ho2 hb2 hl2 hC2 q0 q1 q2
    obtain ⟨W3, hW3⟩ : ∃ W3, W3 = w2.alloc (.cells (kS A l.length c p2 b2) 43) := ⟨_, rfl⟩
    have HB3 := Aside0.mk (show Below W0.heap.size W0 W3 by rw [hW3]; exact HB2.out.alloc HB2.out.size _)
    have HZ3 := Aside0.mk (show W3.heap[w2.heap.size]? = some (.cells (kS A l.length c p2 b2) 43 (0, 0)) by rw [hW3]; exact heap_alloc_new w2 _)
    have HY3 := Aside0.mk (show W3.heap[w.heap.size + 1]? = some (.cells #[.slice none 0 0, .int .i64 0, .bool false] 43 (0, 0)) by rw [hW3]; exact blk_alloc HY2.out _)
    have HC3 := Aside0.mk (show Kd.C (Kd.int .u8) W3 A2 t.length t by rw [hW3]; exact Kd.C_alloc HC2.out _)
    go_wp2_with fail
    rw [hW3.symm]
    clear hW3
    go_loopg [9, 10] t.length (fun gg s9 s10 wr => ∃ k : Nat, k ≤ t.length ∧ t.length - k ≤ gg ∧ s10 = .int .i64 k ∧ s9 = .int .u64 (num (t.take k)) ∧ Aside0 (wr = W3))
    case atStart => exact ⟨0, Nat.zero_le _, by omega, rfl, rfl, ⟨rfl⟩⟩
    case round =>
      obtain ⟨k, hk, hg, rfl, rfl, HE⟩ := hrel
      have he := HE.out
      subst he
      clear HE
      by_cases hlt : k < t.length
      · have hltz : (k : Int) < (t.length : Int) := by omega
        obtain ⟨ad, rfl, hc⟩ := C_byte HC3.out k hlt
        obtain ⟨g1, g2, g3, g4, g5⟩ := HNT.out k hlt
        have HG1 := Aside0.mk g1
        clear g1
        generalize rd t k = x at *
        generalize num (t.take k) = y at *
        go_wp2_with fail
        go_roundg (t.length - (k + 1))
        case measure => omega
        case rel =>
          refine ⟨k + 1, hlt, by omega, by go_num, ?_, ⟨rfl⟩⟩
          rw [HG1.out]
          go_num
      · obtain rfl : k = t.length := by omega
        rw [List.take_length]
        have z0 : wr.cell? ⟨w2.heap.size, 0, none⟩ = some (.slice A l.length c) := (blk_cell HZ3.out 0).trans rfl
        have z1 : wr.cell? ⟨w2.heap.size, 1, none⟩ = some (.int .i64 (p2 : Int)) := (blk_cell HZ3.out 1).trans rfl
        have z2 : wr.cell? ⟨w2.heap.size, 2, none⟩ = some (.bool b2) := (blk_cell HZ3.out 2).trans rfl
        have d0 : wr.cell? ⟨w.heap.size + 1, 0, none⟩ = some (.slice none 0 0) := (blk_cell HY3.out 0).trans rfl
        have d1 : wr.cell? ⟨w.heap.size + 1, 1, none⟩ = some (.int .i64 0) := (blk_cell HY3.out 1).trans rfl
        have d2 : wr.cell? ⟨w.heap.size + 1, 2, none⟩ = some (.bool false) := (blk_cell HY3.out 2).trans rfl
        have g0 : wr.frozen? ⟨w.heap.size + 1, 0, none⟩ = false := blk_frozen HY3.out 0
        have g1 : wr.frozen? ⟨w.heap.size + 1, 1, none⟩ = false := blk_frozen HY3.out 1
        have g2 : wr.frozen? ⟨w.heap.size + 1, 2, none⟩ = false := blk_frozen HY3.out 2
        have HY4 := blk_set (blk_set (blk_set HY3.out 0 (.slice A l.length c)) 1 (.int .i64 (p2 : Int))) 2 (.bool b2)
        have e0 := (blk_cell HY4 0).trans (show _ = some (.slice A l.length c) from rfl)
        have e1 := (blk_cell HY4 1).trans (show _ = some (.int .i64 (p2 : Int)) from rfl)
        have e2 := (blk_cell HY4 2).trans (show _ = some (.bool b2) from rfl)
        clear HY4
        go_wp2_with fail
        (try simp only [Exit.inBlock, Exit.then])
        refine bodyPost_ret (by simp [results, Try.results34, go_sem, e0, e1, e2]; try rfl) rfl ?_
        refine ⟨rfl, ?_⟩
        exact (((HB0.out.trans (HB3.out.mono HB0.out.size)).setCell (p := ⟨w.heap.size + 1, 0, none⟩) (Nat.le_succ _) _).setCell (p := ⟨w.heap.size + 1, 1, none⟩) (Nat.le_succ _) _).setCell (p := ⟨w.heap.size + 1, 2, none⟩) (Nat.le_succ _) _

end Go.Proofs.Ytanijhlpneiebaa.G
