/- quiverlaw01.FieldBack answers true for every row of parts. -/
import Derived.Test.YtanijhlpneiebaaJoins
import Derived.Deep.RegionWith
import Derived.Deep.CutRange
import Derived.Deep.DeepCutAuto
namespace Go.Proofs.Ytanijhlpneiebaa.G
open Go.RowKit Go.Proofs.YtanijhlpneiebaaW.PrintWords Go.Proofs.YtanijhlpneiebaaW.PrintLast Go.Proofs.YtanijhlpneiebaaW.PrintMore
set_option linter.unusedVariables false
set_option linter.unusedSimpArgs false

theorem add_one' (a : Addr) : a.add 1 = { block := a.block, off := a.off + 1 } := rfl
/-- All fields, one behind the other. -/
def cat (l : List (Int × Int)) : List Int := l.flatMap (fun p => putBytes p.1 p.2)
theorem cat_append (l m : List (Int × Int)) : cat (l ++ m) = cat l ++ cat m := by simp [cat]
theorem cat_cons (p : Int × Int) (l : List (Int × Int)) : cat (p :: l) = putBytes p.1 p.2 ++ cat l := by simp [cat]
theorem cat_snoc (l : List (Int × Int)) (j : Nat) (hj : j < l.length) : cat (l.take (j + 1)) = cat (l.take j) ++ putBytes (l[j]).1 (l[j]).2 := by
  rw [List.take_add_one, List.getElem?_eq_getElem hj, cat_append]
  show _ ++ cat [l[j]] = _
  rw [cat_cons, show cat [] = [] from rfl, List.append_nil]
theorem put_le (n x : Int) : (putBytes n x).length ≤ 8 := by
  rw [putBytes_length]
  split
  · rename_i h; have := isSize_iff.1 h; omega
  · omega
theorem cat_le (l : List (Int × Int)) : (cat l).length ≤ 8 * l.length := by
  induction l with
  | nil => simp [cat]
  | cons p l ih =>
    have : cat (p :: l) = putBytes p.1 p.2 ++ cat l := by simp [cat]
    rw [this, List.length_append]
    have := put_le p.1 p.2
    simp only [List.length_cons]
    omega
theorem cat_range (l : List (Int × Int)) : ∀ x ∈ cat l, 0 ≤ x ∧ x ≤ 255 := by
  intro x hx
  obtain ⟨p, _, hp⟩ := List.mem_flatMap.1 hx
  exact putBytes_range p.1 p.2 x hp
theorem cat_at (l : List (Int × Int)) (j : Nat) (hj : j < l.length) : (cat l).drop (cat (l.take j)).length = putBytes (l[j]).1 (l[j]).2 ++ cat (l.drop (j + 1)) := by
  have e : cat l = cat (l.take j) ++ (putBytes (l[j]).1 (l[j]).2 ++ cat (l.drop (j + 1))) := by
    have h1 : l = l.take j ++ l[j] :: l.drop (j + 1) := by rw [← List.drop_eq_getElem_cons hj, List.take_append_drop]
    have h2 : cat (l.take j ++ l[j] :: l.drop (j + 1)) = cat (l.take j) ++ (putBytes (l[j]).1 (l[j]).2 ++ cat (l.drop (j + 1))) := by rw [cat_append, cat_cons]
    rw [← h2, ← h1]
  conv => lhs; rw [e]
  exact List.drop_left

/-- What is taken off, against what was put. -/
theorem back_law (n : Nat) (h1 : 1 ≤ n) (h8 : n ≤ 8) (x : Int) (h0 : 0 ≤ x) (hx : x ≤ 18446744073709551615) :
    (0 ≤ x % 256 ^ n ∧ x % 256 ^ n < 256 ^ n) ∧ (-(256 ^ n) ≤ 2 * signed n (x % 256 ^ n) ∧ 2 * signed n (x % 256 ^ n) < 256 ^ n) ∧ (x % 256 ^ n = x ↔ x < 256 ^ n) ∧
    (signed n (x % 256 ^ n) = IntKind.i64.wrap x ↔ (-(256 ^ n) ≤ 2 * IntKind.i64.wrap x ∧ 2 * IntKind.i64.wrap x < 256 ^ n)) := by
  have hs : isSize (n : Int) = true := isSize_iff.2 (by omega)
  unfold signed
  rw [if_pos hs, Int.toNat_natCast, IntKind.wrap_i64]
  obtain rfl | rfl | rfl | rfl | rfl | rfl | rfl | rfl : n = 1 ∨ n = 2 ∨ n = 3 ∨ n = 4 ∨ n = 5 ∨ n = 6 ∨ n = 7 ∨ n = 8 := by omega
  all_goals simp only [Int.reducePow]
  all_goals omega

def kPart : Kd (Int × Int) := Kd.pair (Kd.int .i64) (Kd.int .u64)

theorem quiet_end {e : Ending} {v : Value} {w w' : World} (h : e = .returned v ∧ Drawn0 w w') : e = .returned v ∧ ∃ m, w' = w.drewN m := by
  obtain ⟨rfl, ⟨⟨q, rfl⟩⟩⟩ := h
  exact ⟨rfl, q, rfl⟩

set_option maxHeartbeats 40000000 in
set_option maxRecDepth 100000 in
theorem fieldBack_in (A : Option Addr) (c : Nat) (l : List (Int × Int)) (w : World) (hl : l.length ≤ c) (hC : kPart.C w A l.length l) (hwf : ∀ p ∈ l, (-9223372036854775808 ≤ p.1 ∧ p.1 ≤ 9223372036854775807) ∧ 0 ≤ p.2 ∧ p.2 ≤ 18446744073709551615) (h3 : l.length ≤ 300) :
    Calls Try.prog 4 #[.slice A l.length c] w fun e w' => e = .returned (.bool true) ∧ Below w.heap.size w w' := by
  have HC := Aside0.mk hC
  have HW := Aside0.mk hwf
  clear hC hwf
  go_enter Try.func4, Try.ntmps4
  go_wp2_with fail
  refine (wakes01.calls true _ rfl).mono ?_
  rintro e w1 ⟨rfl, hb1⟩
  have HB1 := Aside0.mk hb1
  clear hb1
  go_wp2_with fail
  go_loopw [3, 4, 20] (fun v3 v4 i wr => ∃ j : Nat, j ≤ l.length ∧ i = .int .i64 j ∧ v4 = .int .i64 (cat (l.take j)).length ∧ Aside0 (Kd.R (Kd.int .u8) 5 wr w.heap.size (fun _ => True) v3 (cat (l.take j)) ∧ Below w.heap.size w wr)) (fun _ _ i _ => l.length - (intOf i).toNat)
  case atStart => exact ⟨0, Nat.zero_le _, rfl, by simp [cat], ⟨Kd.R_nil _ _ _ _ _, HB1.out⟩⟩
  case round =>
    obtain ⟨j, hj, rfl, rfl, HW1⟩ := hrel
    by_cases hlt : j < l.length
    · obtain ⟨ad, cc, rfl, hcl, hKc, hcell⟩ := Kd.C_get (Kd.C_below HC.out HW1.out.2) (0, 0) j (by omega) (by omega)
      have hlj : l.getD (j : Int).toNat (0, 0) = l[j] := by simp [List.getD, hlt]
      rw [hlj] at hKc
      obtain ⟨x, y, hp⟩ : ∃ x y, l[j] = (x, y) := ⟨_, _, rfl⟩
      have hxy : cc = [Value.int .i64 x, .int .u64 y] := by
        obtain ⟨_, _, rfl, h1, h2⟩ := hKc
        have h1' : _ = [Value.int .i64 (l[j]).1] := h1
        have h2' : _ = [Value.int .u64 (l[j]).2] := h2
        rw [h1', h2', hp]; rfl
      subst hxy
      have hx := hcell 0 _ rfl
      have hy := hcell 1 _ rfl
      rw [Int.toNat_natCast, show kPart.sz = 2 from rfl] at hx hy
      rw [Nat.add_zero] at hx
      rw [← add_add, add_one'] at hy
      have hcat := cat_snoc l j hlt
      rw [hp] at hcat
      have hle := cat_le (l.take j)
      have hle2 := put_le x y
      have hpl := putBytes_length x y
      obtain ⟨A3, c3, e3, hc3, hC3⟩ := Kd.R_reads HW1.out.1
      subst e3
      have HC3 := Aside0.mk hC3
      have HX2 := Aside0.mk (show (wr.alloc (.cells #[.int .i64 x, .int .u64 y] 33)).heap[wr.heap.size]? = some (.cells #[.int .i64 x, .int .u64 y] 33 (0, 0)) from heap_alloc_new wr _)
      have HB2 := Aside0.mk (show Below w.heap.size w (wr.alloc (.cells #[.int .i64 x, .int .u64 y] 33)) from HW1.out.2.alloc HW1.out.2.size _)
      have HCT := Aside0.mk hcat
      have HP := Aside0.mk hp
      clear hcell hKc hcl hlj hC3 hcat hp
      go_wp2_with fail
      have hj2 : (l.take j).length ≤ 300 := by rw [List.length_take]; omega
      refine (P.field_Put.calls 10 A3 c3 (cat (l.take j)) x y _ _ (Kd.C_alloc HC3.out _) hc3 (put_is _ x y 10 (by omega) (by omega))).mono ?_
      rintro e w3 ⟨v3, rfl, hR3, hb3⟩
      obtain ⟨A4, c4, e4⟩ := Kd.R_slice hR3
      subst e4
      have hlen : (cat (l.take j) ++ putBytes x y).length = (cat (l.take j)).length + (putBytes x y).length := List.length_append
      generalize cat (l.take j) ++ putBytes x y = bs2 at *
      have HR3 := Aside0.mk (Kd.R_lower hR3 HB2.out.size)
      have HX3 := Aside0.mk (blk_below HX2.out hb3)
      have HB3 := Aside0.mk (below_step HB2.out hb3)
      have c0 : w3.cell? ⟨wr.heap.size, 0, none⟩ = some (.int .i64 x) := (blk_cell HX3.out 0).trans rfl
      have c1 : w3.cell? ⟨wr.heap.size, 1, none⟩ = some (.int .u64 y) := (blk_cell HX3.out 1).trans rfl
      clear hR3 hb3 hx hy
      generalize hN : (cat (l.take j)).length = N at *
      have HN := Aside0.mk hN
      have HE := Aside0.mk hlen
      have HPL := Aside0.mk hpl
      have hN3 : N ≤ 2400 := by omega
      clear hN hlen hpl hle hle2 hj2
      by_cases h1 : 1 ≤ x
      · by_cases h2 : x ≤ 8
        · have hD : (bs2.length : Int) = N + x := by rw [HE.out, HPL.out, if_pos (isSize_iff.2 ⟨h1, h2⟩)]; omega
          have hw : IntKind.i64.wrap ((N : Int) + x) = N + x := IntWalk.i64_in _ (by omega)
          go_wp2_with fail
          go_roundw
          case rel => exact ⟨j + 1, hlt, by go_num, by rw [HCT.out, hD], ⟨by rw [HCT.out]; exact HR3.out, HB3.out⟩⟩
          case measure => simp [intOf]; omega
        · have hD : (bs2.length : Int) = N := by rw [HE.out, HPL.out, if_neg (fun h => h2 (isSize_iff.1 h).2)]; omega
          go_wp2_with fail
          go_roundw
          case rel => exact ⟨j + 1, hlt, by go_num, by rw [HCT.out, hD], ⟨by rw [HCT.out]; exact HR3.out, HB3.out⟩⟩
          case measure => simp [intOf]; omega
      · have hD : (bs2.length : Int) = N := by rw [HE.out, HPL.out, if_neg (fun h => h1 (isSize_iff.1 h).1)]; omega
        go_wp2_with fail
        go_roundw
        case rel => exact ⟨j + 1, hlt, by go_num, by rw [HCT.out, hD], ⟨by rw [HCT.out]; exact HR3.out, HB3.out⟩⟩
        case measure => simp [intOf]; omega
    · obtain rfl : j = l.length := by omega
      rw [List.take_length] at HW1 ⊢
      have hle := cat_le l
      obtain ⟨A3, c3, e3, hc3, hC3⟩ := Kd.R_reads HW1.out.1
      subst e3
      have HC3 := Aside0.mk hC3
      have HB2 := Aside0.mk HW1.out.2
      clear hC3
      go_wp2_with fail
      refine (ScRead A3 c3 (cat l) wr HC3.out hc3 (by omega) (cat_range l)).mono ?_
      rintro e w2 ⟨g, rfl, hI, hb2⟩
      have HI := Aside0.mk hI
      have HBa := Aside0.mk (below_step HB2.out hb2)
      have HC4 := Aside0.mk (Kd.C_below HC3.out hb2)
      clear hI hb2
      go_wp2_with fail
      refine (ScRead A3 c3 (cat l) w2 HC4.out hc3 (by omega) (cat_range l)).mono ?_
      rintro e w3 ⟨g2, rfl, hI2, hb3⟩
      have HIs := Aside0.mk (show IsScan w3 w.heap.size (fun k => k < w2.heap.size) g (cat l) 0 false from ((HI.out.bound.mono (fun k h => h.2.2)).lower HB2.out.size).step (fun k hk _ => hb3.block k hk))
      have HIt := Aside0.mk (show IsScan w3 w.heap.size (fun k => w2.heap.size ≤ k) g2 (cat l) 0 false from (hI2.bound.mono (fun k h => h.2.1)).lower HBa.out.size)
      have HB3 := Aside0.mk (below_step HBa.out hb3)
      clear hI2 hb3 HI
      go_wp2_with fail
      go_loopw [53] (fun i wr => ∃ j : Nat, j ≤ l.length ∧ i = .int .i64 j ∧ Aside0 (IsScan wr w.heap.size (fun k => k < w2.heap.size) g (cat l) (cat (l.take j)).length false ∧ IsScan wr w.heap.size (fun k => w2.heap.size ≤ k) g2 (cat l) (cat (l.take j)).length false ∧ Below w.heap.size w wr)) (fun i _ => l.length - (intOf i).toNat)
      case atStart => exact ⟨0, Nat.zero_le _, rfl, ⟨HIs.out, HIt.out, HB3.out⟩⟩
      case round =>
        obtain ⟨j, hj, rfl, HW2⟩ := hrel
        by_cases hlt : j < l.length
        · obtain ⟨ad, cc, rfl, hcl, hKc, hcell⟩ := Kd.C_get (Kd.C_below HC.out HW2.out.2.2) (0, 0) j (by omega) (by omega)
          have hlj : l.getD (j : Int).toNat (0, 0) = l[j] := by simp [List.getD, hlt]
          rw [hlj] at hKc
          obtain ⟨x, y, hp⟩ : ∃ x y, l[j] = (x, y) := ⟨_, _, rfl⟩
          have hxy : cc = [Value.int .i64 x, .int .u64 y] := by
            obtain ⟨_, _, rfl, h1, h2⟩ := hKc
            have h1' : _ = [Value.int .i64 (l[j]).1] := h1
            have h2' : _ = [Value.int .u64 (l[j]).2] := h2
            rw [h1', h2', hp]; rfl
          subst hxy
          have hx := hcell 0 _ rfl
          have hy := hcell 1 _ rfl
          rw [Int.toNat_natCast, show kPart.sz = 2 from rfl] at hx hy
          rw [Nat.add_zero] at hx
          rw [← add_add, add_one'] at hy
          have hcat := cat_snoc l j hlt
          have hat := cat_at l j hlt
          have hwp := HW.out _ (List.getElem_mem hlt)
          rw [hp] at hcat hat hwp
          dsimp only at hcat hat hwp
          have hpl := putBytes_length x y
          have hX := show (wr.alloc (.cells #[.int .i64 x, .int .u64 y] 33)).heap[wr.heap.size]? = some (.cells #[.int .i64 x, .int .u64 y] 33 (0, 0)) from heap_alloc_new wr _
          have HX := Aside0.mk hX
          have HBA := Aside0.mk (show Below w.heap.size w (wr.alloc (.cells #[.int .i64 x, .int .u64 y] 33)) from HW2.out.2.2.alloc HW2.out.2.2.size _)
          have HSA := Aside0.mk (show IsScan (wr.alloc (.cells #[.int .i64 x, .int .u64 y] 33)) w.heap.size _ g (cat l) (cat (l.take j)).length false from HW2.out.1.step (fun j _ hj => Below.heap_alloc _ _ _ hj))
          have HTA := Aside0.mk (show IsScan (wr.alloc (.cells #[.int .i64 x, .int .u64 y] 33)) w.heap.size _ g2 (cat l) (cat (l.take j)).length false from HW2.out.2.1.step (fun j _ hj => Below.heap_alloc _ _ _ hj))
          have HGW := Aside0.mk HW2.out.1.lt
          have HGW2 := Aside0.mk HW2.out.2.1.lt
          have HG := Aside0.mk HW2.out.1.ge
          have HG2 := Aside0.mk HW2.out.2.1.ge
          have HCT := Aside0.mk hcat
          clear hcell hKc hcl hlj hcat hX
          have skip_rel : (putBytes x y).length = 0 → (cat (l.take (j + 1))).length = (cat (l.take j)).length := fun h => by rw [HCT.out, List.length_append, h, Nat.add_zero]
          have SK := Aside0.mk skip_rel
          clear skip_rel
          by_cases h1 : x < 1
          · have hz : (putBytes x y).length = 0 := by rw [hpl, if_neg (fun h => by have := isSize_iff.1 h; omega)]
            have HZ := Aside0.mk hz
            clear hz hpl hat
            go_wp2_with fail
            go_roundw
            case rel => exact ⟨j + 1, hlt, by go_num, ⟨by rw [SK.out HZ.out]; exact HSA.out, by rw [SK.out HZ.out]; exact HTA.out, HBA.out⟩⟩
            case measure => simp [intOf]; omega
          by_cases h2 : 8 < x
          · have hz : (putBytes x y).length = 0 := by rw [hpl, if_neg (fun h => by have := isSize_iff.1 h; omega)]
            have HZ := Aside0.mk hz
            clear hz hpl hat
            go_wp2_with fail
            go_roundw
            case rel => exact ⟨j + 1, hlt, by go_num, ⟨by rw [SK.out HZ.out]; exact HSA.out, by rw [SK.out HZ.out]; exact HTA.out, HBA.out⟩⟩
            case measure => simp [intOf]; omega
          obtain ⟨n, rfl⟩ : ∃ n : Nat, x = n := ⟨x.toNat, by omega⟩
          have hsz : isSize (n : Int) = true := isSize_iff.2 (by omega)
          rw [if_pos hsz, Int.toNat_natCast] at hpl
          have htk : ((cat l).drop (cat (l.take j)).length).take n = putBytes n y := by rw [hat]; exact List.take_left' hpl
          have hdl : (cat l).length - (cat (l.take j)).length = n + (cat (l.drop (j + 1))).length := by rw [← List.length_drop, hat, List.length_append, hpl]
          have F1 := fits_yes (cat l) (cat (l.take j)).length n (by omega) (by omega)
          have hN := fun (W : World) (h : IsScan W w.heap.size (fun k => k < w2.heap.size) g (cat l) (cat (l.take j)).length false) => ScNum w.heap.size _ g (cat l) (cat (l.take j)).length false n W h
          have hT := fun (W : World) (h : IsScan W w.heap.size (fun k => w2.heap.size ≤ k) g2 (cat l) (cat (l.take j)).length false) => ScInt w.heap.size _ g2 (cat l) (cat (l.take j)).length false n W h
          simp only [sizeOr_yes hsz, scTake_yes F1, scPl_yes F1, scBad_yes F1, htk, num_put n y hwp.2.1 hsz, Int.toNat_natCast] at hN hT
          have law := back_law n (by omega) (by omega) y hwp.2.1 hwp.2.2
          have HPL := Aside0.mk hpl
          clear htk hdl F1 hat hpl
          have ff1 := field_Fits_is n (y % 256 ^ n) (by omega) (by have := pow_le256 (show n ≤ 8 by omega); have h8 : (256 : Int) ^ 8 = 18446744073709551616 := by decide
                                                                   omega)
          have ff2 := field_FitsInt_is n (signed n (y % 256 ^ n)) (by have := pow_le256 (show n ≤ 8 by omega); have h8 : (256 : Int) ^ 8 = 18446744073709551616 := by decide
                                                                      omega) (by have := pow_le256 (show n ≤ 8 by omega); have h8 : (256 : Int) ^ 8 = 18446744073709551616 := by decide
                                                                                 omega)
          have hzr : -9223372036854775808 ≤ IntKind.i64.wrap y ∧ IntKind.i64.wrap y < 9223372036854775808 := by rw [IntKind.wrap_i64]; omega
          rw [hsz, Bool.true_and, Int.toNat_natCast] at ff1 ff2
          rw [decide_eq_true law.1.2] at ff1
          rw [decide_eq_true law.2.1] at ff2
          have ff3 : P.field_Fits.f n y = some (decide (y % 256 ^ n = y)) := by
            rw [field_Fits_is n y hwp.2.1 (by omega), hsz, Bool.true_and, Int.toNat_natCast]
            exact congrArg some (decide_eq_decide.2 law.2.2.1).symm
          have ff4 : P.field_FitsInt.f n (IntKind.i64.wrap y) = some (decide (signed n (y % 256 ^ n) = IntKind.i64.wrap y)) := by
            rw [field_FitsInt_is n (IntKind.i64.wrap y) hzr.1 hzr.2, hsz, Bool.true_and, Int.toNat_natCast]
            exact congrArg some (decide_eq_decide.2 law.2.2.2).symm
          have hN' := Aside0.mk hN
          have hT' := Aside0.mk hT
          clear hN hT law
          generalize y % 256 ^ n = X at *
          generalize signed (n : Int) X = Y at *
          generalize hZ : IntKind.i64.wrap y = Z at *
          have cnt : (cat (l.take (j + 1))).length = (cat (l.take j)).length + n := by rw [HCT.out, List.length_append, HPL.out]
          have CN := Aside0.mk cnt
          clear cnt
          have HSD := Aside0.mk (show IsScan (wr.alloc (.cells #[.int .i64 n, .int .u64 y] 33)).drew w.heap.size (fun k => k < w2.heap.size) g (cat l) (cat (l.take j)).length false from HSA.out.step (fun _ _ _ => rfl))
          have HTD := Aside0.mk (show IsScan (wr.alloc (.cells #[.int .i64 n, .int .u64 y] 33)).drew w.heap.size (fun k => w2.heap.size ≤ k) g2 (cat l) (cat (l.take j)).length false from HTA.out.step (fun _ _ _ => rfl))
          have HXD := Aside0.mk (show (wr.alloc (.cells #[.int .i64 n, .int .u64 y] 33)).drew.heap[wr.heap.size]? = some (.cells #[.int .i64 n, .int .u64 y] 33 (0, 0)) from HX.out)
          have HBD := Aside0.mk (show Below w.heap.size w (wr.alloc (.cells #[.int .i64 n, .int .u64 y] 33)).drew from HBA.out.drew)
          go_upto_region 21 with (fail)
          go_cut [11, 12] (fun v11 v12 wc => v11 = .int .u64 X ∧ v12 = .int .i64 Y ∧ Aside0 (IsScan wc w.heap.size (fun k => k < w2.heap.size) g (cat l) ((cat (l.take j)).length + n) false ∧ IsScan wc w.heap.size (fun k => w2.heap.size ≤ k) g2 (cat l) ((cat (l.take j)).length + n) false ∧ wc.heap[wr.heap.size]? = some (.cells #[.int .i64 n, .int .u64 y] 33 (0, 0)) ∧ Below w.heap.size w wc))
          case first =>
            go_region_with (first | (go_at_call 28; refine (hN'.out _ HSD.out).mono ?_; rintro e V1 ⟨rfl, hi1, hf1⟩; have HS1 := Aside0.mk hi1; have HT1 := Aside0.mk (HTD.out.fr hf1 (fun k hk e => by subst e; exact absurd HW2.out.1.ok_g (by omega))); have HX1 := Aside0.mk (hf1.blk HXD.out (fun e => Nat.lt_irrefl _ (e ▸ HGW.out))); have c0 : V1.cell? ⟨wr.heap.size, 0, none⟩ = some (.int .i64 n) := (blk_cell HX1.out 0).trans rfl; have HB1 := Aside0.mk (HBD.out.trans (hf1.toBelow HBD.out.size (fun j hj => by subst hj; exact HG.out))); clear hi1 hf1) | (go_at_call 29; refine (hT'.out _ HT1.out).mono ?_; rintro e V2 ⟨rfl, hi2, hf2⟩; have HT2 := Aside0.mk hi2; have HS2 := Aside0.mk (HS1.out.fr hf2 (fun k hk e => by subst e; exact absurd HW2.out.2.1.ok_g (by omega))); have HX2 := Aside0.mk (hf2.blk HX1.out (fun e => Nat.lt_irrefl _ (e ▸ HGW2.out))); have d0 : V2.cell? ⟨wr.heap.size, 0, none⟩ = some (.int .i64 n) := (blk_cell HX2.out 0).trans rfl; have d1 : V2.cell? ⟨wr.heap.size, 1, none⟩ = some (.int .u64 y) := (blk_cell HX2.out 1).trans rfl; have HB2 := Aside0.mk (HB1.out.trans (hf2.toBelow HB1.out.size (fun j hj => by subst hj; exact HG2.out))); clear hi2 hf2))
            all_goals (go_wp2_with fail; go_meet)
            all_goals exact ⟨rfl, rfl, ⟨HS2.out, HT2.out, HX2.out, HB2.out⟩⟩
          case rest =>
            obtain ⟨rfl, rfl, HCUT⟩ := hcut
            have HS3 := Aside0.mk HCUT.out.1
            have HT3 := Aside0.mk HCUT.out.2.1
            have HB3' := Aside0.mk HCUT.out.2.2.2
            have d0 : wc.cell? ⟨wr.heap.size, 0, none⟩ = some (.int .i64 n) := (blk_cell HCUT.out.2.2.1 0).trans rfl
            have d1 : wc.cell? ⟨wr.heap.size, 1, none⟩ = some (.int .u64 y) := (blk_cell HCUT.out.2.2.1 1).trans rfl
            have FF1 := Aside0.mk ff1
            have FF2 := Aside0.mk ff2
            clear ff1 ff2 hx hy
            by_cases hb1 : X = y
            · subst hb1
              simp only [decide_true] at ff3
              clear ff3
              by_cases hb2 : Y = Z
              · subst hb2
                simp only [decide_true] at ff4
                clear ff4
                go_wp2_with fail
                go_quiet (first | (go_at_call_of 23 (Value.int IntKind.u64 X); refine Calls.quiet_of ((P.field_Fits.calls n X true _ FF1.out).mono (fun e w' h => quiet_end h))) | (go_at_call_of 25 (Value.int IntKind.i64 Y); refine Calls.quiet_of ((P.field_FitsInt.calls n Y true _ FF2.out).mono (fun e w' h => quiet_end h))))
                go_wp2_with fail
                go_roundw
                case rel => first | exact ⟨j + 1, hlt, by go_num, ⟨by rw [CN.out]; exact HS3.out.drewN _, by rw [CN.out]; exact HT3.out.drewN _, pw_below_drewN HB3'.out _⟩⟩ | ((repeat apply Exists.intro); exact ⟨⟨hlt, by go_num, ⟨by rw [CN.out]; exact HS3.out.drewN _, by rw [CN.out]; exact HT3.out.drewN _, pw_below_drewN HB3'.out _⟩⟩, rfl⟩)
                case measure => simp [intOf]; omega
              · simp only [hb2, decide_false] at ff4
                have FF4 := Aside0.mk ff4
                clear ff4
                go_wp2_with fail
                go_quiet (first | (go_at_call_of 23 (Value.int IntKind.u64 X); refine Calls.quiet_of ((P.field_Fits.calls n X true _ FF1.out).mono (fun e w' h => quiet_end h))) | (go_at_call_of 25 (Value.int IntKind.i64 Y); refine Calls.quiet_of ((P.field_FitsInt.calls n Y true _ FF2.out).mono (fun e w' h => quiet_end h))) | (go_at_call_of 23 (Value.int IntKind.u64 X); refine Calls.quiet_of ((P.field_Fits.calls n X true _ FF1.out).mono (fun e w' h => quiet_end h))) | (go_at_call_of 25 (Value.int IntKind.i64 Z); refine Calls.quiet_of ((P.field_FitsInt.calls n Z false _ FF4.out).mono (fun e w' h => quiet_end h))))
                go_wp2_with fail
                go_roundw
                case rel => first | exact ⟨j + 1, hlt, by go_num, ⟨by rw [CN.out]; exact HS3.out.drewN _, by rw [CN.out]; exact HT3.out.drewN _, pw_below_drewN HB3'.out _⟩⟩ | ((repeat apply Exists.intro); exact ⟨⟨hlt, by go_num, ⟨by rw [CN.out]; exact HS3.out.drewN _, by rw [CN.out]; exact HT3.out.drewN _, pw_below_drewN HB3'.out _⟩⟩, rfl⟩)
                case measure => simp [intOf]; omega
            · simp only [hb1, decide_false] at ff3
              have FF3 := Aside0.mk ff3
              clear ff3
              by_cases hb2 : Y = Z
              · subst hb2
                simp only [decide_true] at ff4
                clear ff4
                go_wp2_with fail
                go_quiet (first | (go_at_call_of 23 (Value.int IntKind.u64 X); refine Calls.quiet_of ((P.field_Fits.calls n X true _ FF1.out).mono (fun e w' h => quiet_end h))) | (go_at_call_of 25 (Value.int IntKind.i64 Y); refine Calls.quiet_of ((P.field_FitsInt.calls n Y true _ FF2.out).mono (fun e w' h => quiet_end h))) | (go_at_call_of 23 (Value.int IntKind.u64 y); refine Calls.quiet_of ((P.field_Fits.calls n y false _ FF3.out).mono (fun e w' h => quiet_end h))) | (go_at_call_of 25 (Value.int IntKind.i64 Y); refine Calls.quiet_of ((P.field_FitsInt.calls n Y true _ FF2.out).mono (fun e w' h => quiet_end h))))
                go_wp2_with fail
                go_roundw
                case rel => first | exact ⟨j + 1, hlt, by go_num, ⟨by rw [CN.out]; exact HS3.out.drewN _, by rw [CN.out]; exact HT3.out.drewN _, pw_below_drewN HB3'.out _⟩⟩ | ((repeat apply Exists.intro); exact ⟨⟨hlt, by go_num, ⟨by rw [CN.out]; exact HS3.out.drewN _, by rw [CN.out]; exact HT3.out.drewN _, pw_below_drewN HB3'.out _⟩⟩, rfl⟩)
                case measure => simp [intOf]; omega
              · simp only [hb2, decide_false] at ff4
                have FF4 := Aside0.mk ff4
                clear ff4
                have e1 : (X == y) = false := beq_eq_false_iff_ne.mpr hb1
                have e2 : (Y == Z) = false := beq_eq_false_iff_ne.mpr hb2
                go_wp2_with fail
                go_quiet (first | (go_at_call_of 23 (Value.int IntKind.u64 X); refine Calls.quiet_of ((P.field_Fits.calls n X true _ FF1.out).mono (fun e w' h => quiet_end h))) | (go_at_call_of 25 (Value.int IntKind.i64 Y); refine Calls.quiet_of ((P.field_FitsInt.calls n Y true _ FF2.out).mono (fun e w' h => quiet_end h))) | (go_at_call_of 23 (Value.int IntKind.u64 y); refine Calls.quiet_of ((P.field_Fits.calls n y false _ FF3.out).mono (fun e w' h => quiet_end h))) | (go_at_call_of 25 (Value.int IntKind.i64 Z); refine Calls.quiet_of ((P.field_FitsInt.calls n Z false _ FF4.out).mono (fun e w' h => quiet_end h))))
                go_wp2_with fail
                go_roundw
                case rel => first | exact ⟨j + 1, hlt, by go_num, ⟨by rw [CN.out]; exact HS3.out.drewN _, by rw [CN.out]; exact HT3.out.drewN _, pw_below_drewN HB3'.out _⟩⟩ | ((repeat apply Exists.intro); exact ⟨⟨hlt, by go_num, ⟨by rw [CN.out]; exact HS3.out.drewN _, by rw [CN.out]; exact HT3.out.drewN _, pw_below_drewN HB3'.out _⟩⟩, rfl⟩)
                case measure => simp [intOf]; omega
        · obtain rfl : j = l.length := by omega
          rw [List.take_length] at HW2
          have HS := Aside0.mk HW2.out.1
          have HT := Aside0.mk HW2.out.2.1
          have HBz := Aside0.mk HW2.out.2.2
          go_wp2_with fail
          refine (ScBadq _ _ g _ _ _ wr HS.out).mono ?_
          rintro e w4 ⟨rfl, ⟨⟨n4, rfl⟩⟩⟩
          go_wp2_with fail
          refine (ScBadq _ _ g2 _ _ _ _ (HT.out.drewN _)).mono ?_
          rintro e w5 ⟨rfl, ⟨⟨n5, rfl⟩⟩⟩
          go_wp2_with fail
          refine (ScLeft _ _ g _ _ _ _ (HS.out.drewN _)).mono ?_
          rintro e w6 ⟨rfl, ⟨⟨n6, rfl⟩⟩⟩
          go_wp2_with fail
          refine (ScPlace _ _ g2 _ _ _ _ (HT.out.drewN _)).mono ?_
          rintro e w7 ⟨rfl, ⟨⟨n7, rfl⟩⟩⟩
          go_wp2_with fail
          go_returns
          exact ⟨rfl, pw_below_drewN HBz.out _⟩

end Go.Proofs.Ytanijhlpneiebaa.G
