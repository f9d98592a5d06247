/- The stable sort of ints: slices.swapRangeCmpFunc, rotateCmpFunc, symMergeCmpFunc, insertionSortCmpFunc, stableCmpFunc, SortStableFunc: their contracts. -/
import Derived.Test.YtoblkjdiahoplaaI
import Derived.Test.YtoblkjdiahoplaaSt
import Derived.Deep.RegionWith
import Derived.Deep.CutRange
import Derived.Deep.DeepCutAuto
import Derived.BigRegion
namespace Go.Proofs.Ytoblkjdiahoplaa.G
open Go.Shelf Go.RowKit Go.Proofs.YtoblkjdiahoplaaW.PrintWords Go.Proofs.YtoblkjdiahoplaaW.PrintLast Go.Proofs.YtoblkjdiahoplaaW.PrintMore
set_option linter.unusedVariables false
set_option linter.unusedSimpArgs false

section
theorem own_int {W : World} {base g n cap : Nat} {ok : Nat → Prop} {xs : List Int} (h : Kd.N (Kd.int .i64) 3 W base ok (.slice (some ⟨g, 0, none⟩) n cap) xs) (j : Nat) (hj : j < n) :
    Kd.FK (Kd.int .i64) W (fun k => ok k ∧ k ≠ g) (xs.getD j (0 : Int)) [.int .i64 (xs.getD j 0)] ∧ W.cell? ⟨g, j, none⟩ = some (.int .i64 (xs.getD j 0)) ∧ W.frozen? ⟨g, j, none⟩ = false := by
  obtain ⟨c, hcl, hF, hcc, hfr⟩ := Kd.N_elem h (0 : Int) (j : Int) (by omega) (by omega)
  rw [Int.toNat_natCast] at hF hcc hfr
  have hk : (Kd.int .i64).K W (xs.getD j 0) c := Kd.FK_now hF
  obtain rfl : c = [.int .i64 (xs.getD j 0)] := hk
  have h0 := hcc 0 _ rfl
  have h1 := hfr 0
  rw [Nat.add_zero, show j * (Kd.int .i64).sz = j from Nat.mul_one j] at h0 h1
  exact ⟨hF, h0, h1⟩
theorem put_int {W : World} {base g n cap : Nat} {ok : Nat → Prop} {xs : List Int} (h : Kd.N (Kd.int .i64) 3 W base ok (.slice (some ⟨g, 0, none⟩) n cap) xs) (j : Nat) (hj : j < n) {x : Int} (hx : Kd.FK (Kd.int .i64) W (fun k => ok k ∧ k ≠ g) x [.int .i64 x]) :
    Kd.N (Kd.int .i64) 3 (W.setCell ⟨g, j, none⟩ (.int .i64 x)) base ok (.slice (some ⟨g, 0, none⟩) n cap) (xs.set j x) ∧ W.grownBy (W.setCell ⟨g, j, none⟩ (.int .i64 x)) (some g) := by
  obtain ⟨d, hdl, _, hcc, _⟩ := Kd.N_elem h (0 : Int) (j : Int) (by omega) (by omega)
  have := Kd.N_seg h (j : Int) (by omega) (by omega) (c := d) (seg := [.int .i64 x]) (j := 0) (x' := x) (okp := fun k => ok k ∧ k ≠ g) hdl hcc (by show 0 + 1 ≤ 1; omega) (by
    have e : d.take 0 ++ [Value.int .i64 x] ++ d.drop (0 + [Value.int .i64 x].length) = [Value.int .i64 x] := by
      rw [List.take_zero, List.nil_append, List.drop_eq_nil_of_le (by rw [hdl]; show 1 ≤ 0 + 1; omega), List.append_nil]
    rw [e]; exact hx) (fun k hk => hk)
  rw [Int.toNat_natCast] at this
  have e2 : j * (Kd.int .i64).sz + 0 = j := by show j * 1 + 0 = j; omega
  rw [e2] at this
  exact this
theorem swap2_i {W : World} {base g n cap : Nat} {ok : Nat → Prop} {xs : List Int} (h : Kd.N (Kd.int .i64) 3 W base ok (.slice (some ⟨g, 0, none⟩) n cap) xs) (p q : Nat) (hp : p < n) (hq : q < n) {x : Int} {y : Int} (hx : Kd.FK (Kd.int .i64) W (fun k => ok k ∧ k ≠ g) x [.int .i64 x]) (hy : Kd.FK (Kd.int .i64) W (fun k => ok k ∧ k ≠ g) y [.int .i64 y]) :
    Kd.N (Kd.int .i64) 3 ((W.setCell ⟨g, p, none⟩ (.int .i64 y)).setCell ⟨g, q, none⟩ (.int .i64 x)) base ok (.slice (some ⟨g, 0, none⟩) n cap) ((xs.set p y).set q x) ∧ Fr (· = g) W ((W.setCell ⟨g, p, none⟩ (.int .i64 y)).setCell ⟨g, q, none⟩ (.int .i64 x)) := by
  obtain ⟨h1, g1⟩ := put_int h p hp hy
  have hx1 := Kd.FK_step hx (fun k hk hlt => g1.block k hlt (fun e => hk.2 (by injection e)))
  obtain ⟨h2, g2⟩ := put_int h1 q hq hx1
  exact ⟨h2, (Fr.of_grown (S := (· = g)) g1 (fun k e => .inl (by injection e with e; exact e.symm))).grown g2 (fun k e => .inl (by injection e with e; exact e.symm))⟩

set_option maxHeartbeats 4000000 in
set_option maxRecDepth 100000 in
theorem swr_i (g n cap a b c : Nat) (xs : List Int) (fv : Value) (base : Nat) (ok : Nat → Prop) (w : World) (hN : Kd.N (Kd.int .i64) 3 w base ok (.slice (some ⟨g, 0, none⟩) n cap) xs) (hab : a < b) (ha : a + c ≤ n) (hb : b + c ≤ n) (hn : n ≤ 1000000) :
    Calls Try.prog 71 #[.slice (some ⟨g, 0, none⟩) n cap, .int .i64 (a : Int), .int .i64 (b : Int), .int .i64 (c : Int), fv] w fun e w' => e = .returned (.tuple #[]) ∧ Kd.N (Kd.int .i64) 3 w' base ok (.slice (some ⟨g, 0, none⟩) n cap) (swR (0 : Int) a b c 0 xs) ∧ Fr (· = g) w w' := by
  have HN0 := Aside0.mk hN
  have HF0 := Aside0.mk (Fr.refl (· = g) w)
  clear hN
  go_enter Try.func71, Try.ntmps71
  go_wp2_with fail
  go_loopg [10] c (fun gg v10 wr => ∃ (i : Nat) (ys : List Int), v10 = .int .i64 (i : Int) ∧ i ≤ c ∧ c - i ≤ gg ∧ Aside0 (Kd.N (Kd.int .i64) 3 wr base ok (.slice (some ⟨g, 0, none⟩) n cap) ys) ∧ Aside0 (Fr (· = g) w wr) ∧ Aside0 (swR (0 : Int) a b c i ys = swR (0 : Int) a b c 0 xs))
  case atStart => exact ⟨0, xs, by go_num, by omega, by omega, HN0, HF0, ⟨rfl⟩⟩
  case round =>
    obtain ⟨i, ys, rfl, hic, hg1, HNi, HFi, HIi⟩ := hrel
    by_cases hlt : i < c
    · have hltz : (i : Int) < (c : Int) := by omega
      have hst : swR (0 : Int) a b c i ys = swR (0 : Int) a b c (i + 1) (sw (0 : Int) ys (a + i) (b + i)) := by rw [swR.eq_1 (0 : Int) a b c i ys, if_pos hlt]
      have HI2 := Aside0.mk (hst.symm.trans HIi.out)
      clear hst HIi
      obtain ⟨hFx, q0, qz0⟩ := own_int HNi.out (a + i) (by omega)
      obtain ⟨hFy, p0, pz0⟩ := own_int HNi.out (b + i) (by omega)
      have HFx := Aside0.mk hFx
      have HFy := Aside0.mk hFy
      clear hFx hFy
      have HSW := Aside0.mk (show sw (0 : Int) ys (a + i) (b + i) = (ys.set (a + i) (ys.getD (b + i) (0 : Int))).set (b + i) (ys.getD (a + i) (0 : Int)) from rfl)
      generalize ys.getD (a + i) (0 : Int) = x at *
      generalize ys.getD (b + i) (0 : Int) = y at *
      generalize sw (0 : Int) ys (a + i) (b + i) = zs2 at *
      have hne1 : ¬ a = b := by omega
      have hne2 : ¬ b = a := by omega
      have hne3 : ¬ a + i = b + i := by omega
      have hne4 : ¬ b + i = a + i := by omega
      have ea : ((a : Int) + (i : Int)).toNat = a + i := by omega
      have eb : ((b : Int) + (i : Int)).toNat = b + i := by omega
      have la : (a : Int) + (i : Int) < (n : Int) := by omega
      have lb : (b : Int) + (i : Int) < (n : Int) := by omega
      obtain ⟨wo, rfl⟩ : ∃ wo, wo = wr := ⟨_, rfl⟩
      go_wp2_with fail
      go_region
      obtain ⟨w4, hw4⟩ : ∃ w4, w4 = ((wo.setCell ⟨g, a + i, none⟩ (.int .i64 y)).setCell ⟨g, b + i, none⟩ (.int .i64 x)) := ⟨_, rfl⟩
      rw [← hw4]
      obtain ⟨hN4, hF4⟩ := swap2_i HNi.out (a + i) (b + i) (by omega) (by omega) HFx.out HFy.out
      rw [← hw4, ← HSW.out] at hN4
      rw [← hw4] at hF4
      have HN4 := Aside0.mk (Kd.N_drew hN4)
      have HF4 := Aside0.mk ((HFi.out.trans hF4).drew)
      clear hN4 hF4 hw4 q0 qz0 p0 pz0 HFx HFy
      go_wp2_with fail
      go_roundg (c - (i + 1))
      case measure => omega
      case rel => exact ⟨i + 1, zs2, by go_num, by omega, by omega, HN4, HF4, HI2⟩
    · have hltz : ¬ (i : Int) < (c : Int) := by omega
      have HI3 := Aside0.mk (show ys = swR (0 : Int) a b c 0 xs by rw [← HIi.out, swR, if_neg hlt])
      go_wp2_with fail
      go_end0
      exact ⟨rfl, by rw [← HI3.out]; exact HNi.out, HFi.out⟩

set_option maxHeartbeats 4000000 in
set_option maxRecDepth 100000 in
theorem rot_i (g n cap a m b : Nat) (xs : List Int) (fv : Value) (base : Nat) (ok : Nat → Prop) (w : World) (hN : Kd.N (Kd.int .i64) 3 w base ok (.slice (some ⟨g, 0, none⟩) n cap) xs) (ha : a < m) (hm : m < b) (hb : b ≤ n) (hn : n ≤ 1000000) :
    Calls Try.prog 69 #[.slice (some ⟨g, 0, none⟩) n cap, .int .i64 (a : Int), .int .i64 (m : Int), .int .i64 (b : Int), fv] w fun e w' => e = .returned (.tuple #[]) ∧ Kd.N (Kd.int .i64) 3 w' base ok (.slice (some ⟨g, 0, none⟩) n cap) (rotL (0 : Int) m (m - a) (b - m) xs) ∧ Fr (· = g) w w' := by
  have HN0 := Aside0.mk hN
  have HF0 := Aside0.mk (Fr.refl (· = g) w)
  clear hN
  go_enter Try.func69, Try.ntmps69
  go_wp2_with fail
  go_loopg [10, 11] (b - a) (fun gg v10 v11 wr => ∃ (i j : Nat) (ys : List Int), v10 = .int .i64 (i : Int) ∧ v11 = .int .i64 (j : Int) ∧ 0 < i ∧ 0 < j ∧ i + j ≤ gg ∧ i ≤ m ∧ m + j ≤ n ∧ Aside0 (Kd.N (Kd.int .i64) 3 wr base ok (.slice (some ⟨g, 0, none⟩) n cap) ys) ∧ Aside0 (Fr (· = g) w wr) ∧ Aside0 (rotL (0 : Int) m i j ys = rotL (0 : Int) m (m - a) (b - m) xs))
  case atStart => exact ⟨m - a, b - m, xs, by go_num, by go_num, by omega, by omega, by omega, by omega, by omega, HN0, HF0, ⟨rfl⟩⟩
  case round =>
    obtain ⟨i, j, ys, rfl, rfl, hi0, hj0, hg1, him, hjn, HNi, HFi, HIi⟩ := hrel
    have e1 : (m : Int) - (i : Int) = ((m - i : Nat) : Int) := by omega
    by_cases hij : i = j
    · subst hij
      have hst : rotL (0 : Int) m i i ys = swR (0 : Int) (m - i) m i 0 ys := by rw [rotL, dif_neg (by omega), if_pos rfl]
      have HI2 := Aside0.mk (hst.symm.trans HIi.out)
      clear hst HIi
      have hc := swr_i g n cap (m - i) m i ys fv base ok wr HNi.out (by omega) (by omega) (by omega) hn
      have HC := Aside0.mk hc
      clear hc
      go_wp2_with (go_at_call 71; refine HC.out.mono ?_; rintro e w1 ⟨rfl, hn1, hf1⟩; have HN1 := Aside0.mk hn1; have HF1 := Aside0.mk hf1; clear hn1 hf1)
      go_end0
      exact ⟨rfl, by rw [← HI2.out]; exact HN1.out, HFi.out.trans HF1.out⟩
    · have hijz : ¬ (i : Int) = (j : Int) := by omega
      by_cases hlt : j < i
      · have hltz : (j : Int) < (i : Int) := by omega
        have hst : rotL (0 : Int) m i j ys = rotL (0 : Int) m (i - j) j (swR (0 : Int) (m - i) m j 0 ys) := by rw [rotL.eq_1 (0 : Int) m i j ys, dif_neg (by omega), if_neg hij, if_pos hlt]
        have HI2 := Aside0.mk (hst.symm.trans HIi.out)
        clear hst HIi
        have hc := swr_i g n cap (m - i) m j ys fv base ok wr HNi.out (by omega) (by omega) (by omega) hn
        have HC := Aside0.mk hc
        clear hc
        go_wp2_with (go_at_call 71; refine HC.out.mono ?_; rintro e w1 ⟨rfl, hn1, hf1⟩; have HN1 := Aside0.mk hn1; have HF1 := Aside0.mk hf1; clear hn1 hf1)
        go_roundg (i - j + j)
        case measure => omega
        case rel => exact ⟨i - j, j, _, by go_num, rfl, by omega, by omega, by omega, by omega, by omega, HN1, ⟨HFi.out.trans HF1.out⟩, HI2⟩
      · have hltz : ¬ (j : Int) < (i : Int) := by omega
        have e2 : (m : Int) + (j : Int) - (i : Int) = ((m + j - i : Nat) : Int) := by omega
        have hst : rotL (0 : Int) m i j ys = rotL (0 : Int) m i (j - i) (swR (0 : Int) (m - i) (m + j - i) i 0 ys) := by rw [rotL.eq_1 (0 : Int) m i j ys, dif_neg (by omega), if_neg hij, if_neg hlt]
        have HI2 := Aside0.mk (hst.symm.trans HIi.out)
        clear hst HIi
        have hc := swr_i g n cap (m - i) (m + j - i) i ys fv base ok wr HNi.out (by omega) (by omega) (by omega) hn
        have HC := Aside0.mk hc
        clear hc
        go_wp2_with (go_at_call 71; refine HC.out.mono ?_; rintro e w1 ⟨rfl, hn1, hf1⟩; have HN1 := Aside0.mk hn1; have HF1 := Aside0.mk hf1; clear hn1 hf1)
        go_roundg (i + (j - i))
        case measure => omega
        case rel => exact ⟨i, j - i, _, rfl, by go_num, by omega, by omega, by omega, by omega, by omega, HN1, ⟨HFi.out.trans HF1.out⟩, HI2⟩
end

section
theorem pr_getD {Pr : Int → Prop} {xs : List Int} (h : ∀ x ∈ xs, Pr x) (hz : Pr 0) (i : Nat) : Pr (xs.getD i 0) := by
  rw [List.getD_eq_getElem?_getD]
  rcases Nat.lt_or_ge i xs.length with hl | hl
  · rw [List.getElem?_eq_getElem hl]; exact h _ (List.getElem_mem hl)
  · rw [List.getElem?_eq_none hl]; exact hz
abbrev lt_i (cf : Int → Int → Int) (x y : Int) : Bool := decide (cf x y < 0)

set_option maxHeartbeats 4000000 in
set_option maxRecDepth 100000 in
theorem sym1_i (g n cap a m b : Nat) (Pr : Int → Prop) (hz0 : Pr 0) (K : Nat) (lb : Array Value) (cf : Int → Int → Int) (base : Nat) (ok : Nat → Prop) (w0 : World) (hn : n ≤ 1000000)
    (eg : ∀ args w, (callFunc K args).run Try.prog w = .ok (.enter K args) w)
    (hcmp : ∀ (x y : Int) W, Pr x → Pr y → Fr (· = g) w0 W → Calls Try.prog K (#[.int .i64 x, .int .i64 y] ++ lb) W fun e w' => e = .returned (.int .i64 (cf x y)) ∧ Below W.heap.size W w') (F : Nat) (xs : List Int) (hpr : ∀ x ∈ xs, Pr x) (w : World) (hN : Kd.N (Kd.int .i64) 3 w base ok (.slice (some ⟨g, 0, none⟩) n cap) xs) (hF : Fr (· = g) w0 w) (ha : m = a + 1) (hm : m < b) (hb : b ≤ n) :
    Calls Try.prog 67 #[.slice (some ⟨g, 0, none⟩) n cap, .int .i64 (a : Int), .int .i64 (m : Int), .int .i64 (b : Int), .func (.func K) #[] lb] w fun e w' => e = .returned (.tuple #[]) ∧ Kd.N (Kd.int .i64) 3 w' base ok (.slice (some ⟨g, 0, none⟩) n cap) (symM (0 : Int) (lt_i cf) (F + 1) a m b xs) ∧ Fr (· = g) w0 w' := by
  obtain ⟨P, hP⟩ : ∃ P : Nat → Bool, P = fun h => lt_i cf (xs.getD h (0 : Int)) (xs.getD a (0 : Int)) := ⟨_, rfl⟩
  have HR := Aside0.mk (show symM (0 : Int) (lt_i cf) (F + 1) a m b xs = upL (0 : Int) a (bs P m b) xs by rw [symM, if_pos ha, hP])
  have HP := Aside0.mk (fun h => (show P h = decide (cf (xs.getD h (0 : Int)) (xs.getD a (0 : Int)) < 0) by rw [hP]))
  clear hP
  have ha1 : a < m := by omega
  have ha2 : m ≤ a + 1 := by omega
  clear ha
  have HN0 := Aside0.mk hN
  have HF0 := Aside0.mk hF
  have HC := Aside0.mk hcmp
  have HPR0 := Aside0.mk hpr
  have HZ := Aside0.mk hz0
  clear hpr hz0
  clear hN hF hcmp
  have hz1 : (m : Int) - (a : Int) = 1 := by omega
  go_enter Try.func67, Try.ntmps67
  go_wp2_with fail
  go_loopg [10, 11] (b - m) (fun gg vi vj wr => ∃ (i j : Nat) (ys : List Int), vi = .int .i64 (i : Int) ∧ vj = .int .i64 (j : Int) ∧ m ≤ i ∧ i ≤ j ∧ j ≤ b ∧ j - i ≤ gg ∧ Aside0 (Kd.N (Kd.int .i64) 3 wr base ok (.slice (some ⟨g, 0, none⟩) n cap) ys) ∧ Aside0 (Fr (· = g) w0 wr) ∧ Aside0 (ys = xs) ∧ Aside0 (bs P i j = bs P m b) ∧ Aside0 (∀ x ∈ ys, Pr x))
  case atStart => exact ⟨m, b, xs, rfl, rfl, by omega, by omega, by omega, by omega, HN0, HF0, ⟨rfl⟩, ⟨rfl⟩, HPR0⟩
  case round =>
    obtain ⟨i, j, ys, rfl, rfl, hi0, hij, hjb, hg1, HNi, HFi, HYi, HIi, HPRi⟩ := hrel
    by_cases hlt : i < j
    · have hltz : (i : Int) < (j : Int) := by omega
      obtain ⟨h, hh⟩ : ∃ h, h = (i + j) / 2 := ⟨_, rfl⟩
      have hh0 : i ≤ h := by omega
      have hh1 : h < j := by omega
      have ehz : ((i : Int) + (j : Int)) / 2 = (h : Int) := by omega
      have hPh := HP.out h
      rw [← HYi.out] at hPh
      have HH := Aside0.mk hh
      clear hh
      obtain ⟨hFx, q0, qz0⟩ := own_int HNi.out (h) (by omega)
      obtain ⟨hFy, p0, pz0⟩ := own_int HNi.out (a) (by omega)
      have hcall := fun (p : Gr wr) => HC.out (ys.getD (h) 0) (ys.getD (a) 0) p.w (pr_getD HPRi.out HZ.out _) (pr_getD HPRi.out HZ.out _) (HFi.out.below p.h)
      clear hFx hFy
      generalize ys.getD (h) (0 : Int) = x at *
      generalize ys.getD (a) (0 : Int) = y at *
      have l1 : (h : Int) < (n : Int) := by omega
      have l2 : (a : Int) < (n : Int) := by omega
      by_cases hlv : cf x y < 0
      · have HCA := Aside0.mk hcall
        have hlv2 : decide (cf x y < 0) = true := decide_eq_true hlv
        have HPB := Aside0.mk (show P h = true by rw [hPh, hlv2])
        clear hcall hlv hPh
        generalize cf x y = v at *
        obtain ⟨wo, rfl⟩ : ∃ wo, wo = wr := ⟨_, rfl⟩
        go_wp2_with fail
        have R0 := fun p => Gr.cell q0 p
        have R1 := fun p => Gr.cell p0 p
        refine wp_region_gr (by kernel_rfl) (by kernel_rfl) ?_
        repeat (quiet_step ((go_at_fn K; exact Calls.gr_of (HCA.out _))))
        refine wpQuiet_nil ?_
        intro w3 hw'
        have hb3 : Below wo.heap.size wo w3 := by obtain ⟨p, rfl⟩ := hw'; exact p.h
        have HN3 := Aside0.mk (Kd.N_below HNi.out hb3)
        have HF3 := Aside0.mk (HFi.out.below hb3)
        clear hw' R0 R1 q0 p0 qz0 pz0 hb3
        go_wp2_with fail
        have HI3 := Aside0.mk (show bs P (h + 1) j = bs P m b by rw [← HIi.out, HH.out]; exact bs_t hlt (by rw [← HH.out]; exact HPB.out))
        go_roundg (j - (h + 1))
        case measure => omega
        case rel => exact ⟨h + 1, j, ys, by go_num, rfl, by omega, by omega, by omega, by omega, HN3, HF3, HYi, HI3, HPRi⟩
      · have HCA := Aside0.mk hcall
        have hlv2 : decide (cf x y < 0) = false := decide_eq_false hlv
        have HPB := Aside0.mk (show P h = false by rw [hPh, hlv2])
        clear hcall hlv hPh
        generalize cf x y = v at *
        obtain ⟨wo, rfl⟩ : ∃ wo, wo = wr := ⟨_, rfl⟩
        go_wp2_with fail
        have R0 := fun p => Gr.cell q0 p
        have R1 := fun p => Gr.cell p0 p
        refine wp_region_gr (by kernel_rfl) (by kernel_rfl) ?_
        repeat (quiet_step ((go_at_fn K; exact Calls.gr_of (HCA.out _))))
        refine wpQuiet_nil ?_
        intro w3 hw'
        have hb3 : Below wo.heap.size wo w3 := by obtain ⟨p, rfl⟩ := hw'; exact p.h
        have HN3 := Aside0.mk (Kd.N_below HNi.out hb3)
        have HF3 := Aside0.mk (HFi.out.below hb3)
        clear hw' R0 R1 q0 p0 qz0 pz0 hb3
        go_wp2_with fail
        have HI3 := Aside0.mk (show bs P i h = bs P m b by rw [← HIi.out, HH.out]; exact bs_f hlt (by rw [← HH.out]; exact HPB.out))
        go_roundg (h - i)
        case measure => omega
        case rel => exact ⟨i, h, ys, rfl, rfl, by omega, by omega, by omega, by omega, HN3, HF3, HYi, HI3, HPRi⟩
    · have hltz : ¬ (i : Int) < (j : Int) := by omega
      obtain rfl : i = j := by omega
      have HS := Aside0.mk (show i = bs P m b by rw [← HIi.out]; exact bs_e hlt)
      go_wp2_with fail
      go_loopg [13] (i - a) (fun gg v13 wr => ∃ (q : Nat) (ys : List Int), v13 = .int .i64 (q : Int) ∧ a ≤ q ∧ q + 1 ≤ i ∧ i - q ≤ gg ∧ Aside0 (Kd.N (Kd.int .i64) 3 wr base ok (.slice (some ⟨g, 0, none⟩) n cap) ys) ∧ Aside0 (Fr (· = g) w0 wr) ∧ Aside0 (upL (0 : Int) q i ys = upL (0 : Int) a i xs))
      case atStart => exact ⟨a, ys, rfl, by omega, by omega, by omega, HNi, HFi, ⟨by rw [HYi.out]⟩⟩
      case round =>
        clear HNi HFi HYi HIi
        obtain ⟨q, ys, rfl, hq0, hq1, hg2, HNi, HFi, HIi⟩ := hrel
        by_cases hlt2 : q + 1 < i
        · have hltz2 : (q : Int) < (i : Int) - 1 := by omega
          have hst : upL (0 : Int) q i ys = upL (0 : Int) (q + 1) i (sw (0 : Int) ys q (q + 1)) := by rw [upL.eq_1 (0 : Int) q i ys, if_pos hlt2]
          have HI2 := Aside0.mk (hst.symm.trans HIi.out)
          clear hst HIi
          obtain ⟨hFx, q0, qz0⟩ := own_int HNi.out (q) (by omega)
          obtain ⟨hFy, p0, pz0⟩ := own_int HNi.out (q + 1) (by omega)
          have HFx := Aside0.mk hFx
          have HFy := Aside0.mk hFy
          clear hFx hFy
          have HSW := Aside0.mk (show sw (0 : Int) ys (q) (q + 1) = (ys.set (q) (ys.getD (q + 1) (0 : Int))).set (q + 1) (ys.getD (q) (0 : Int)) from rfl)
          generalize ys.getD (q) (0 : Int) = x at *
          generalize ys.getD (q + 1) (0 : Int) = y at *
          generalize sw (0 : Int) ys (q) (q + 1) = zs2 at *
          have e1 : ((q : Int) + 1).toNat = q + 1 := by omega
          have l1 : (q : Int) + 1 < (n : Int) := by omega
          have l2 : (q : Int) < (n : Int) := by omega
          obtain ⟨wo, rfl⟩ : ∃ wo, wo = wr := ⟨_, rfl⟩
          go_wp2_with fail
          go_region
          obtain ⟨w4, hw4⟩ : ∃ w4, w4 = ((wo.setCell ⟨g, q, none⟩ (.int .i64 y)).setCell ⟨g, q + 1, none⟩ (.int .i64 x)) := ⟨_, rfl⟩
          rw [← hw4]
          obtain ⟨hN4, hF4⟩ := swap2_i HNi.out (q) (q + 1) (by omega) (by omega) HFx.out HFy.out
          rw [← hw4, ← HSW.out] at hN4
          rw [← hw4] at hF4
          have HN4 := Aside0.mk (Kd.N_drew hN4)
          have HF4 := Aside0.mk ((HFi.out.trans hF4).drew)
          clear hN4 hF4 hw4 q0 qz0 p0 pz0 HFx HFy
          go_wp2_with fail
          go_roundg (i - (q + 1))
          case measure => omega
          case rel => exact ⟨q + 1, zs2, by go_num, by omega, by omega, by omega, HN4, HF4, HI2⟩
        · have hltz2 : ¬ (q : Int) < (i : Int) - 1 := by omega
          have HI3 := Aside0.mk (show ys = upL (0 : Int) a i xs by rw [← HIi.out, upL, if_neg hlt2])
          go_wp2_with fail
          go_returns
          exact ⟨rfl, by rw [HR.out, ← HS.out, ← HI3.out]; exact HNi.out, HFi.out⟩

set_option maxHeartbeats 4000000 in
set_option maxRecDepth 100000 in
theorem sym2_i (g n cap a m b : Nat) (Pr : Int → Prop) (hz0 : Pr 0) (K : Nat) (lb : Array Value) (cf : Int → Int → Int) (base : Nat) (ok : Nat → Prop) (w0 : World) (hn : n ≤ 1000000)
    (eg : ∀ args w, (callFunc K args).run Try.prog w = .ok (.enter K args) w)
    (hcmp : ∀ (x y : Int) W, Pr x → Pr y → Fr (· = g) w0 W → Calls Try.prog K (#[.int .i64 x, .int .i64 y] ++ lb) W fun e w' => e = .returned (.int .i64 (cf x y)) ∧ Below W.heap.size W w') (F : Nat) (xs : List Int) (hpr : ∀ x ∈ xs, Pr x) (w : World) (hN : Kd.N (Kd.int .i64) 3 w base ok (.slice (some ⟨g, 0, none⟩) n cap) xs) (hF : Fr (· = g) w0 w) (ham : a < m) (ha : ¬ m = a + 1) (hm : b = m + 1) (hb : b ≤ n) :
    Calls Try.prog 67 #[.slice (some ⟨g, 0, none⟩) n cap, .int .i64 (a : Int), .int .i64 (m : Int), .int .i64 (b : Int), .func (.func K) #[] lb] w fun e w' => e = .returned (.tuple #[]) ∧ Kd.N (Kd.int .i64) 3 w' base ok (.slice (some ⟨g, 0, none⟩) n cap) (symM (0 : Int) (lt_i cf) (F + 1) a m b xs) ∧ Fr (· = g) w0 w' := by
  obtain ⟨P, hP⟩ : ∃ P : Nat → Bool, P = fun h => !lt_i cf (xs.getD m (0 : Int)) (xs.getD h (0 : Int)) := ⟨_, rfl⟩
  have HR := Aside0.mk (show symM (0 : Int) (lt_i cf) (F + 1) a m b xs = dnL (0 : Int) m (bs P a m) xs by rw [symM, if_neg ha, if_pos hm, hP])
  have HP := Aside0.mk (fun h => (show P h = !decide (cf (xs.getD m (0 : Int)) (xs.getD h (0 : Int)) < 0) by rw [hP]))
  clear hP
  have ha1 : a + 1 < m := by omega
  have hb1 : m < b := by omega
  have hb2 : b ≤ m + 1 := by omega
  clear ha hm
  have HN0 := Aside0.mk hN
  have HF0 := Aside0.mk hF
  have HC := Aside0.mk hcmp
  have HPR0 := Aside0.mk hpr
  have HZ := Aside0.mk hz0
  clear hpr hz0
  clear hN hF hcmp
  have hz1 : ¬ (m : Int) - (a : Int) = 1 := by omega
  have hz1b : ((m : Int) - (a : Int) == 1) = false := by rw [beq_eq_false_iff_ne]; omega
  have hz2 : (b : Int) - (m : Int) = 1 := by omega
  go_enter Try.func67, Try.ntmps67
  go_wp2_with fail
  go_loopg [14, 15] (m - a) (fun gg vi vj wr => ∃ (i j : Nat) (ys : List Int), vi = .int .i64 (i : Int) ∧ vj = .int .i64 (j : Int) ∧ a ≤ i ∧ i ≤ j ∧ j ≤ m ∧ j - i ≤ gg ∧ Aside0 (Kd.N (Kd.int .i64) 3 wr base ok (.slice (some ⟨g, 0, none⟩) n cap) ys) ∧ Aside0 (Fr (· = g) w0 wr) ∧ Aside0 (ys = xs) ∧ Aside0 (bs P i j = bs P a m) ∧ Aside0 (∀ x ∈ ys, Pr x))
  case atStart => exact ⟨a, m, xs, rfl, rfl, by omega, by omega, by omega, by omega, HN0, HF0, ⟨rfl⟩, ⟨rfl⟩, HPR0⟩
  case round =>
    obtain ⟨i, j, ys, rfl, rfl, hi0, hij, hjb, hg1, HNi, HFi, HYi, HIi, HPRi⟩ := hrel
    by_cases hlt : i < j
    · have hltz : (i : Int) < (j : Int) := by omega
      obtain ⟨h, hh⟩ : ∃ h, h = (i + j) / 2 := ⟨_, rfl⟩
      have hh0 : i ≤ h := by omega
      have hh1 : h < j := by omega
      have ehz : ((i : Int) + (j : Int)) / 2 = (h : Int) := by omega
      have hPh := HP.out h
      rw [← HYi.out] at hPh
      have HH := Aside0.mk hh
      clear hh
      obtain ⟨hFx, q0, qz0⟩ := own_int HNi.out (m) (by omega)
      obtain ⟨hFy, p0, pz0⟩ := own_int HNi.out (h) (by omega)
      have hcall := fun (p : Gr wr) => HC.out (ys.getD (m) 0) (ys.getD (h) 0) p.w (pr_getD HPRi.out HZ.out _) (pr_getD HPRi.out HZ.out _) (HFi.out.below p.h)
      clear hFx hFy
      generalize ys.getD (m) (0 : Int) = x at *
      generalize ys.getD (h) (0 : Int) = y at *
      have l1 : (h : Int) < (n : Int) := by omega
      have l2 : (m : Int) < (n : Int) := by omega
      by_cases hlv : cf x y < 0
      · have HCA := Aside0.mk hcall
        have hlv2 : decide (cf x y < 0) = true := decide_eq_true hlv
        have HPB := Aside0.mk (show P h = false by rw [hPh, hlv2]; rfl)
        clear hcall hlv hPh
        generalize cf x y = v at *
        obtain ⟨wo, rfl⟩ : ∃ wo, wo = wr := ⟨_, rfl⟩
        go_wp2_with fail
        have R0 := fun p => Gr.cell q0 p
        have R1 := fun p => Gr.cell p0 p
        refine wp_region_gr (by kernel_rfl) (by kernel_rfl) ?_
        repeat (quiet_step ((go_at_fn K; exact Calls.gr_of (HCA.out _))))
        refine wpQuiet_nil ?_
        intro w3 hw'
        have hb3 : Below wo.heap.size wo w3 := by obtain ⟨p, rfl⟩ := hw'; exact p.h
        have HN3 := Aside0.mk (Kd.N_below HNi.out hb3)
        have HF3 := Aside0.mk (HFi.out.below hb3)
        clear hw' R0 R1 q0 p0 qz0 pz0 hb3
        go_wp2_with fail
        have HI3 := Aside0.mk (show bs P i h = bs P a m by rw [← HIi.out, HH.out]; exact bs_f hlt (by rw [← HH.out]; exact HPB.out))
        go_roundg (h - i)
        case measure => omega
        case rel => exact ⟨i, h, ys, rfl, rfl, by omega, by omega, by omega, by omega, HN3, HF3, HYi, HI3, HPRi⟩
      · have HCA := Aside0.mk hcall
        have hlv2 : decide (cf x y < 0) = false := decide_eq_false hlv
        have HPB := Aside0.mk (show P h = true by rw [hPh, hlv2]; rfl)
        clear hcall hlv hPh
        generalize cf x y = v at *
        obtain ⟨wo, rfl⟩ : ∃ wo, wo = wr := ⟨_, rfl⟩
        go_wp2_with fail
        have R0 := fun p => Gr.cell q0 p
        have R1 := fun p => Gr.cell p0 p
        refine wp_region_gr (by kernel_rfl) (by kernel_rfl) ?_
        repeat (quiet_step ((go_at_fn K; exact Calls.gr_of (HCA.out _))))
        refine wpQuiet_nil ?_
        intro w3 hw'
        have hb3 : Below wo.heap.size wo w3 := by obtain ⟨p, rfl⟩ := hw'; exact p.h
        have HN3 := Aside0.mk (Kd.N_below HNi.out hb3)
        have HF3 := Aside0.mk (HFi.out.below hb3)
        clear hw' R0 R1 q0 p0 qz0 pz0 hb3
        go_wp2_with fail
        have HI3 := Aside0.mk (show bs P (h + 1) j = bs P a m by rw [← HIi.out, HH.out]; exact bs_t hlt (by rw [← HH.out]; exact HPB.out))
        go_roundg (j - (h + 1))
        case measure => omega
        case rel => exact ⟨h + 1, j, ys, by go_num, rfl, by omega, by omega, by omega, by omega, HN3, HF3, HYi, HI3, HPRi⟩
    · have hltz : ¬ (i : Int) < (j : Int) := by omega
      obtain rfl : i = j := by omega
      have HS := Aside0.mk (show i = bs P a m by rw [← HIi.out]; exact bs_e hlt)
      go_wp2_with fail
      go_loopg [17] (m - i) (fun gg v17 wr => ∃ (q : Nat) (ys : List Int), v17 = .int .i64 (q : Int) ∧ q ≤ m ∧ i ≤ q ∧ q - i ≤ gg ∧ Aside0 (Kd.N (Kd.int .i64) 3 wr base ok (.slice (some ⟨g, 0, none⟩) n cap) ys) ∧ Aside0 (Fr (· = g) w0 wr) ∧ Aside0 (dnL (0 : Int) q i ys = dnL (0 : Int) m i xs))
      case atStart => exact ⟨m, ys, rfl, by omega, by omega, by omega, HNi, HFi, ⟨by rw [HYi.out]⟩⟩
      case round =>
        clear HNi HFi HYi HIi
        obtain ⟨q, ys, rfl, hq0, hq1, hg2, HNi, HFi, HIi⟩ := hrel
        by_cases hlt2 : i < q
        · obtain ⟨q, rfl⟩ : ∃ r, q = r + 1 := ⟨q - 1, by omega⟩
          have hltz2 : (i : Int) < (q : Int) + 1 := by omega
          have hst : dnL (0 : Int) (q + 1) i ys = dnL (0 : Int) q i (sw (0 : Int) ys (q + 1) q) := by rw [dnL.eq_1 (0 : Int) (q + 1) i ys, if_pos hlt2]; rfl
          have HI2 := Aside0.mk (hst.symm.trans HIi.out)
          clear hst HIi
          obtain ⟨hFx, q0, qz0⟩ := own_int HNi.out (q + 1) (by omega)
          obtain ⟨hFy, p0, pz0⟩ := own_int HNi.out (q) (by omega)
          have HFx := Aside0.mk hFx
          have HFy := Aside0.mk hFy
          clear hFx hFy
          have HSW := Aside0.mk (show sw (0 : Int) ys (q + 1) (q) = (ys.set (q + 1) (ys.getD (q) (0 : Int))).set (q) (ys.getD (q + 1) (0 : Int)) from rfl)
          generalize ys.getD (q + 1) (0 : Int) = x at *
          generalize ys.getD (q) (0 : Int) = y at *
          generalize sw (0 : Int) ys (q + 1) (q) = zs2 at *
          have e1 : ((q : Int) + 1).toNat = q + 1 := by omega
          have l1 : (q : Int) + 1 < (n : Int) := by omega
          have l2 : (q : Int) < (n : Int) := by omega
          have hwp : IntKind.i64.wrap (q : Int) = (q : Int) := by rw [IntKind.wrap_i64]; omega
          obtain ⟨wo, rfl⟩ : ∃ wo, wo = wr := ⟨_, rfl⟩
          go_wp2_with fail
          go_region
          obtain ⟨w4, hw4⟩ : ∃ w4, w4 = ((wo.setCell ⟨g, q + 1, none⟩ (.int .i64 y)).setCell ⟨g, q, none⟩ (.int .i64 x)) := ⟨_, rfl⟩
          rw [← hw4]
          obtain ⟨hN4, hF4⟩ := swap2_i HNi.out (q + 1) (q) (by omega) (by omega) HFx.out HFy.out
          rw [← hw4, ← HSW.out] at hN4
          rw [← hw4] at hF4
          have HN4 := Aside0.mk (Kd.N_drew hN4)
          have HF4 := Aside0.mk ((HFi.out.trans hF4).drew)
          clear hN4 hF4 hw4 q0 qz0 p0 pz0 HFx HFy
          go_wp2_with fail
          go_roundg (q - i)
          case measure => omega
          case rel => exact ⟨q, zs2, by go_num, by omega, by omega, by omega, HN4, HF4, HI2⟩
        · have hltz2 : ¬ (i : Int) < (q : Int) := by omega
          have HI3 := Aside0.mk (show ys = dnL (0 : Int) m i xs by rw [← HIi.out, dnL, if_neg hlt2])
          go_wp2_with fail
          go_returns
          exact ⟨rfl, by rw [HR.out, ← HS.out, ← HI3.out]; exact HNi.out, HFi.out⟩
end

section
set_option maxHeartbeats 8000000 in
set_option maxRecDepth 100000 in
theorem symg_i (g n cap : Nat) (Pr : Int → Prop) (hz0 : Pr 0) (K : Nat) (lb : Array Value) (cf : Int → Int → Int) (base : Nat) (ok : Nat → Prop) (w0 : World) (hn : n ≤ 1000000)
    (eg : ∀ args w, (callFunc K args).run Try.prog w = .ok (.enter K args) w)
    (hcmp : ∀ (x y : Int) W, Pr x → Pr y → Fr (· = g) w0 W → Calls Try.prog K (#[.int .i64 x, .int .i64 y] ++ lb) W fun e w' => e = .returned (.int .i64 (cf x y)) ∧ Below W.heap.size W w') : ∀ (F a m b : Nat) (xs : List Int) (w : World), (∀ x ∈ xs, Pr x) → Kd.N (Kd.int .i64) 3 w base ok (.slice (some ⟨g, 0, none⟩) n cap) xs → Fr (· = g) w0 w → a < m → m < b → b ≤ n → b - a ≤ F →
    Calls Try.prog 67 #[.slice (some ⟨g, 0, none⟩) n cap, .int .i64 (a : Int), .int .i64 (m : Int), .int .i64 (b : Int), .func (.func K) #[] lb] w fun e w' => e = .returned (.tuple #[]) ∧ Kd.N (Kd.int .i64) 3 w' base ok (.slice (some ⟨g, 0, none⟩) n cap) (symM (0 : Int) (lt_i cf) F a m b xs) ∧ Fr (· = g) w0 w' := by
  intro F
  induction F with
  | zero => intro a m b xs w hpr hN hF ham hmb hb hFu; omega
  | succ F ih =>
  intro a m b xs w hpr hN hF ham hmb hb hFu
  by_cases h1 : m = a + 1
  · exact sym1_i g n cap a m b Pr hz0 K lb cf base ok w0 hn eg hcmp F xs hpr w hN hF h1 hmb hb
  by_cases h2 : b = m + 1
  · exact sym2_i g n cap a m b Pr hz0 K lb cf base ok w0 hn eg hcmp F xs hpr w hN hF ham h1 h2 hb
  obtain ⟨mid, hmid⟩ : ∃ mid, mid = (a + b) / 2 := ⟨_, rfl⟩
  obtain ⟨s0, hs0⟩ : ∃ s0, s0 = if mid < m then mid + m - b else a := ⟨_, rfl⟩
  obtain ⟨r0, hr0⟩ : ∃ r0, r0 = if mid < m then mid else m := ⟨_, rfl⟩
  obtain ⟨P, hP⟩ : ∃ P : Nat → Bool, P = fun c => !lt_i cf (xs.getD (mid + m - 1 - c) (0 : Int)) (xs.getD c (0 : Int)) := ⟨_, rfl⟩
  have HR := Aside0.mk (fun s e (hs : s = bs P s0 r0) (he : e = mid + m - s) x1 x2 => symM_big (z := (0 : Int)) (lt := lt_i cf) (F := F) h1 h2 hmid hs0 hr0 hP hs he x1 x2)
  have HP := Aside0.mk (fun c => (show P c = !decide (cf (xs.getD (mid + m - 1 - c) (0 : Int)) (xs.getD c (0 : Int)) < 0) by rw [hP]))
  have p1 : 2 * mid ≤ a + b := by omega
  have p2 : a + b ≤ 2 * mid + 1 := by omega
  have q1 : a ≤ s0 := by split at hs0 <;> omega
  have q2 : r0 ≤ m := by split at hr0 <;> omega
  have q3 : s0 ≤ r0 := by split at hs0 <;> split at hr0 <;> omega
  have q4 : mid + m ≤ s0 + b := by split at hs0 <;> omega
  have q5 : r0 ≤ mid := by split at hr0 <;> omega
  have HS0 := Aside0.mk hs0
  have HR0 := Aside0.mk hr0
  have h1' : a + 1 < m := by omega
  have h2' : m + 1 < b := by omega
  have emz : ((a : Int) + (b : Int)) / 2 = (mid : Int) := by omega
  obtain ⟨p, hp⟩ : ∃ p, p + 1 = mid + m := ⟨mid + m - 1, by omega⟩
  have epz : (mid : Int) + (m : Int) - 1 = (p : Int) := by omega
  have hz1 : ¬ (m : Int) - (a : Int) = 1 := by omega
  have hz2 : ¬ (b : Int) - (m : Int) = 1 := by omega
  have hz1b : ((m : Int) - (a : Int) == 1) = false := by rw [beq_eq_false_iff_ne]; omega
  have hz2b : ((b : Int) - (m : Int) == 1) = false := by rw [beq_eq_false_iff_ne]; omega
  have HN0 := Aside0.mk hN
  have HF0 := Aside0.mk hF
  have HC := Aside0.mk hcmp
  have HIH := Aside0.mk ih
  have HPE := Aside0.mk hp
  have hpl : p < mid + m := by omega
  have hpg : mid + m ≤ p + 1 := by omega
  have HPR0 := Aside0.mk hpr
  have HZ := Aside0.mk hz0
  clear hpr hz0
  clear hN hF hcmp ih hs0 hr0 hmid h1 h2 hP hp
  go_enter Try.func67, Try.ntmps67
  go_upto_if 140 with (fail)
  obtain ⟨wo, rfl⟩ : ∃ wo, wo = w := ⟨_, rfl⟩
  go_cut [20, 21] (fun v20 v21 wc => v20 = .int .i64 (s0 : Int) ∧ v21 = .int .i64 (r0 : Int) ∧ wc = wo)
  case first =>
    by_cases hmm : mid < m
    · have hmz : (mid : Int) < (m : Int) := by omega
      have es : (mid : Int) + (m : Int) - (b : Int) = (s0 : Int) := by rw [HS0.out, if_pos hmm]; omega
      have er : (mid : Int) = (r0 : Int) := by rw [HR0.out, if_pos hmm]
      have ER := Aside0.mk er
      clear er
      go_wp2_with fail
      go_meet
      exact ⟨rfl, by rw [ER.out], rfl⟩
    · have hmz : ¬ (mid : Int) < (m : Int) := by omega
      have es : a = s0 := by rw [HS0.out, if_neg hmm]
      have er : m = r0 := by rw [HR0.out, if_neg hmm]
      have ER := Aside0.mk er
      have ES := Aside0.mk es
      clear er es
      go_wp2_with fail
      go_meet
      exact ⟨by rw [ES.out], by rw [ER.out], rfl⟩
  case rest =>
  obtain ⟨rfl, rfl, rfl⟩ := hcut
  go_wp2_with fail
  go_loopg [20, 21] (r0 - s0) (fun gg vi vj wr => ∃ (i j : Nat) (ys : List Int), vi = .int .i64 (i : Int) ∧ vj = .int .i64 (j : Int) ∧ s0 ≤ i ∧ i ≤ j ∧ j ≤ r0 ∧ j - i ≤ gg ∧ Aside0 (Kd.N (Kd.int .i64) 3 wr base ok (.slice (some ⟨g, 0, none⟩) n cap) ys) ∧ Aside0 (Fr (· = g) w0 wr) ∧ Aside0 (ys = xs) ∧ Aside0 (bs P i j = bs P s0 r0) ∧ Aside0 (∀ x ∈ ys, Pr x))
  case atStart => exact ⟨s0, r0, xs, rfl, rfl, by omega, by omega, by omega, by omega, HN0, HF0, ⟨rfl⟩, ⟨rfl⟩, HPR0⟩
  case round =>
    obtain ⟨i, j, ys, rfl, rfl, hi0, hij, hjb, hg1, HNi, HFi, HYi, HIi, HPRi⟩ := hrel
    by_cases hlt : i < j
    · have hltz : (i : Int) < (j : Int) := by omega
      obtain ⟨h, hh⟩ : ∃ h, h = (i + j) / 2 := ⟨_, rfl⟩
      have hh0 : i ≤ h := by omega
      have hh1 : h < j := by omega
      have ehz : ((i : Int) + (j : Int)) / 2 = (h : Int) := by omega
      obtain ⟨r, hr⟩ : ∃ r, r + h = p := ⟨p - h, by omega⟩
      have erz : (p : Int) - (h : Int) = (r : Int) := by omega
      have hrb : r < b := by omega
      have hPh := HP.out h
      rw [← HYi.out, show mid + m - 1 - h = r by omega] at hPh
      have HH := Aside0.mk hh
      clear hh hr
      obtain ⟨hFx, q0, qz0⟩ := own_int HNi.out (r) (by omega)
      obtain ⟨hFy, p0, pz0⟩ := own_int HNi.out (h) (by omega)
      have hcall := fun (p : Gr wr) => HC.out (ys.getD (r) 0) (ys.getD (h) 0) p.w (pr_getD HPRi.out HZ.out _) (pr_getD HPRi.out HZ.out _) (HFi.out.below p.h)
      clear hFx hFy
      generalize ys.getD (r) (0 : Int) = x at *
      generalize ys.getD (h) (0 : Int) = y at *
      have hwp : IntKind.i64.wrap (r : Int) = (r : Int) := by rw [IntKind.wrap_i64]; omega
      have l1 : (h : Int) < (n : Int) := by omega
      have l2 : (r : Int) < (n : Int) := by omega
      by_cases hlv : cf x y < 0
      · have HCA := Aside0.mk hcall
        have hlv2 : decide (cf x y < 0) = true := decide_eq_true hlv
        have HPB := Aside0.mk (show P h = false by rw [hPh, hlv2]; rfl)
        clear hcall hlv hPh
        generalize cf x y = v at *
        obtain ⟨wo, rfl⟩ : ∃ wo, wo = wr := ⟨_, rfl⟩
        go_wp2_with fail
        have R0 := fun p => Gr.cell q0 p
        have R1 := fun p => Gr.cell p0 p
        refine wp_region_gr (by kernel_rfl) (by kernel_rfl) ?_
        repeat (quiet_step ((go_at_fn K; exact Calls.gr_of (HCA.out _))))
        refine wpQuiet_nil ?_
        intro w3 hw'
        have hb3 : Below wo.heap.size wo w3 := by obtain ⟨p, rfl⟩ := hw'; exact p.h
        have HN3 := Aside0.mk (Kd.N_below HNi.out hb3)
        have HF3 := Aside0.mk (HFi.out.below hb3)
        clear hw' R0 R1 q0 p0 qz0 pz0 hb3
        go_wp2_with fail
        have HI3 := Aside0.mk (show bs P i h = bs P s0 r0 by rw [← HIi.out, HH.out]; exact bs_f hlt (by rw [← HH.out]; exact HPB.out))
        go_roundg (h - i)
        case measure => omega
        case rel => exact ⟨i, h, ys, rfl, rfl, by omega, by omega, by omega, by omega, HN3, HF3, HYi, HI3, HPRi⟩
      · have HCA := Aside0.mk hcall
        have hlv2 : decide (cf x y < 0) = false := decide_eq_false hlv
        have HPB := Aside0.mk (show P h = true by rw [hPh, hlv2]; rfl)
        clear hcall hlv hPh
        generalize cf x y = v at *
        obtain ⟨wo, rfl⟩ : ∃ wo, wo = wr := ⟨_, rfl⟩
        go_wp2_with fail
        have R0 := fun p => Gr.cell q0 p
        have R1 := fun p => Gr.cell p0 p
        refine wp_region_gr (by kernel_rfl) (by kernel_rfl) ?_
        repeat (quiet_step ((go_at_fn K; exact Calls.gr_of (HCA.out _))))
        refine wpQuiet_nil ?_
        intro w3 hw'
        have hb3 : Below wo.heap.size wo w3 := by obtain ⟨p, rfl⟩ := hw'; exact p.h
        have HN3 := Aside0.mk (Kd.N_below HNi.out hb3)
        have HF3 := Aside0.mk (HFi.out.below hb3)
        clear hw' R0 R1 q0 p0 qz0 pz0 hb3
        go_wp2_with fail
        have HI3 := Aside0.mk (show bs P (h + 1) j = bs P s0 r0 by rw [← HIi.out, HH.out]; exact bs_t hlt (by rw [← HH.out]; exact HPB.out))
        go_roundg (j - (h + 1))
        case measure => omega
        case rel => exact ⟨h + 1, j, ys, by go_num, rfl, by omega, by omega, by omega, by omega, HN3, HF3, HYi, HI3, HPRi⟩
    · have hltz : ¬ (i : Int) < (j : Int) := by omega
      obtain rfl : i = j := by omega
      obtain ⟨e, he⟩ : ∃ e, e = mid + m - i := ⟨_, rfl⟩
      have HR2 := Aside0.mk (HR.out i e (by rw [← HIi.out]; exact bs_e hlt) he)
      have ez : (mid : Int) + (m : Int) - (i : Int) = (e : Int) := by omega
      have e1 : m ≤ e := by omega
      have e2 : e ≤ b := by omega
      have e3 : e + i = mid + m := by omega
      have E3 := Aside0.mk e3
      clear he e3
      by_cases c0 : i < m ∧ m < e
      · have b0 : ((decide (i < m ∧ m < e))) = true := decide_eq_true c0
        have BB0 := Aside0.mk b0
        clear b0
        have ca : (i : Int) < (m : Int) := by omega
        have cb : (m : Int) < (e : Int) := by omega
        have hc := rot_i g n cap i m e ys (.func (.func K) #[] lb) base ok _ HNi.out (by omega) (by omega) (by omega) hn
        obtain ⟨y0, hy0⟩ : ∃ y0, y0 = rotL (0 : Int) m (m - i) (e - m) ys := ⟨_, rfl⟩
        rw [← hy0] at hc
        have HY0 := Aside0.mk hy0
        have HPR1 := Aside0.mk (show ∀ x ∈ y0, Pr x by rw [hy0]; exact rotL_all HZ.out _ _ _ _ HPRi.out)
        have HCC := Aside0.mk hc
        clear hc hy0
        go_upto_region 41 with (go_at_call 69; refine HCC.out.mono ?_; rintro e9 w7 ⟨rfl, hn1, hf1⟩; have HN1 := Aside0.mk hn1; have HF1 := Aside0.mk (HFi.out.trans hf1); clear hn1 hf1)
        clear ca cb
        by_cases c1 : a < i ∧ i < mid
        · have b1 : ((decide (a < i ∧ i < mid))) = true := decide_eq_true c1
          have BB1 := Aside0.mk b1
          clear b1
          have ca : (a : Int) < (i : Int) := by omega
          have cb : (i : Int) < (mid : Int) := by omega
          have hc := HIH.out a i mid y0 _ HPR1.out HN1.out HF1.out (by omega) (by omega) (by omega) (by have := E3.out; omega)
          obtain ⟨y1, hy1⟩ : ∃ y1, y1 = symM (0 : Int) (lt_i cf) F a i mid y0 := ⟨_, rfl⟩
          rw [← hy1] at hc
          have HY1 := Aside0.mk hy1
          have HPR2 := Aside0.mk (show ∀ x ∈ y1, Pr x by rw [hy1]; exact symM_all HZ.out _ _ _ _ _ HPR1.out)
          have HCC := Aside0.mk hc
          clear hc hy1
          go_upto_region 43 with (go_at_call 67; refine HCC.out.mono ?_; rintro e9 w8 ⟨rfl, hn1, hf1⟩; have HN2 := Aside0.mk hn1; have HF2 := Aside0.mk hf1; clear hn1 hf1)
          clear ca cb
          by_cases c2 : mid < e ∧ e < b
          · have b2 : ((decide (mid < e ∧ e < b))) = true := decide_eq_true c2
            have BB2 := Aside0.mk b2
            clear b2
            have ca : (mid : Int) < (e : Int) := by omega
            have cb : (e : Int) < (b : Int) := by omega
            have hc := HIH.out mid e b y1 _ HPR2.out HN2.out HF2.out (by omega) (by omega) (by omega) (by have := E3.out; omega)
            obtain ⟨y2, hy2⟩ : ∃ y2, y2 = symM (0 : Int) (lt_i cf) F mid e b y1 := ⟨_, rfl⟩
            rw [← hy2] at hc
            have HY2 := Aside0.mk hy2
            have HPR3 := Aside0.mk (show ∀ x ∈ y2, Pr x by rw [hy2]; exact symM_all HZ.out _ _ _ _ _ HPR2.out)
            have HCC := Aside0.mk hc
            clear hc hy2
            go_wp2_with (go_at_call 67; refine HCC.out.mono ?_; rintro e9 w9 ⟨rfl, hn1, hf1⟩; have HN3 := Aside0.mk hn1; have HF3 := Aside0.mk hf1; clear hn1 hf1)
            clear ca cb
            go_end0
            exact ⟨rfl, by rw [HR2.out y0 y1 (by rw [← HYi.out]; exact (HY0.out.trans (if_pos c0).symm)) (HY1.out.trans (if_pos c1).symm)]; exact (show y2 = (if mid < e ∧ e < b then symM (0 : Int) (lt_i cf) F mid e b y1 else y1) from (HY2.out.trans (if_pos c2).symm)) ▸ HN3.out, HF3.out⟩
          · have b2 : ((decide (mid < e ∧ e < b))) = false := decide_eq_false c2
            have BB2 := Aside0.mk b2
            clear b2
            by_cases ca0 : mid < e
            · have ca : (mid : Int) < (e : Int) := by omega
              have cb : ¬ (e : Int) < (b : Int) := by omega
              go_wp2_with (fail)
              clear ca cb ca0
              go_end0
              exact ⟨rfl, by rw [HR2.out y0 y1 (by rw [← HYi.out]; exact (HY0.out.trans (if_pos c0).symm)) (HY1.out.trans (if_pos c1).symm)]; exact (show y1 = (if mid < e ∧ e < b then symM (0 : Int) (lt_i cf) F mid e b y1 else y1) from (if_neg c2).symm) ▸ HN2.out, HF2.out⟩
            · have ca : ¬ (mid : Int) < (e : Int) := by omega
              go_wp2_with (fail)
              clear ca ca0
              go_end0
              exact ⟨rfl, by rw [HR2.out y0 y1 (by rw [← HYi.out]; exact (HY0.out.trans (if_pos c0).symm)) (HY1.out.trans (if_pos c1).symm)]; exact (show y1 = (if mid < e ∧ e < b then symM (0 : Int) (lt_i cf) F mid e b y1 else y1) from (if_neg c2).symm) ▸ HN2.out, HF2.out⟩
        · have b1 : ((decide (a < i ∧ i < mid))) = false := decide_eq_false c1
          have BB1 := Aside0.mk b1
          clear b1
          by_cases ca0 : a < i
          · have ca : (a : Int) < (i : Int) := by omega
            have cb : ¬ (i : Int) < (mid : Int) := by omega
            go_upto_region 43 with (fail)
            clear ca cb ca0
            by_cases c2 : mid < e ∧ e < b
            · have b2 : ((decide (mid < e ∧ e < b))) = true := decide_eq_true c2
              have BB2 := Aside0.mk b2
              clear b2
              have ca : (mid : Int) < (e : Int) := by omega
              have cb : (e : Int) < (b : Int) := by omega
              have hc := HIH.out mid e b y0 _ HPR1.out HN1.out HF1.out (by omega) (by omega) (by omega) (by have := E3.out; omega)
              obtain ⟨y2, hy2⟩ : ∃ y2, y2 = symM (0 : Int) (lt_i cf) F mid e b y0 := ⟨_, rfl⟩
              rw [← hy2] at hc
              have HY2 := Aside0.mk hy2
              have HPR3 := Aside0.mk (show ∀ x ∈ y2, Pr x by rw [hy2]; exact symM_all HZ.out _ _ _ _ _ HPR1.out)
              have HCC := Aside0.mk hc
              clear hc hy2
              go_wp2_with (go_at_call 67; refine HCC.out.mono ?_; rintro e9 w9 ⟨rfl, hn1, hf1⟩; have HN3 := Aside0.mk hn1; have HF3 := Aside0.mk hf1; clear hn1 hf1)
              clear ca cb
              go_end0
              exact ⟨rfl, by rw [HR2.out y0 y0 (by rw [← HYi.out]; exact (HY0.out.trans (if_pos c0).symm)) (if_neg c1).symm]; exact (show y2 = (if mid < e ∧ e < b then symM (0 : Int) (lt_i cf) F mid e b y0 else y0) from (HY2.out.trans (if_pos c2).symm)) ▸ HN3.out, HF3.out⟩
            · have b2 : ((decide (mid < e ∧ e < b))) = false := decide_eq_false c2
              have BB2 := Aside0.mk b2
              clear b2
              by_cases ca0 : mid < e
              · have ca : (mid : Int) < (e : Int) := by omega
                have cb : ¬ (e : Int) < (b : Int) := by omega
                go_wp2_with (fail)
                clear ca cb ca0
                go_end0
                exact ⟨rfl, by rw [HR2.out y0 y0 (by rw [← HYi.out]; exact (HY0.out.trans (if_pos c0).symm)) (if_neg c1).symm]; exact (show y0 = (if mid < e ∧ e < b then symM (0 : Int) (lt_i cf) F mid e b y0 else y0) from (if_neg c2).symm) ▸ HN1.out, HF1.out⟩
              · have ca : ¬ (mid : Int) < (e : Int) := by omega
                go_wp2_with (fail)
                clear ca ca0
                go_end0
                exact ⟨rfl, by rw [HR2.out y0 y0 (by rw [← HYi.out]; exact (HY0.out.trans (if_pos c0).symm)) (if_neg c1).symm]; exact (show y0 = (if mid < e ∧ e < b then symM (0 : Int) (lt_i cf) F mid e b y0 else y0) from (if_neg c2).symm) ▸ HN1.out, HF1.out⟩
          · have ca : ¬ (a : Int) < (i : Int) := by omega
            go_upto_region 43 with (fail)
            clear ca ca0
            by_cases c2 : mid < e ∧ e < b
            · have b2 : ((decide (mid < e ∧ e < b))) = true := decide_eq_true c2
              have BB2 := Aside0.mk b2
              clear b2
              have ca : (mid : Int) < (e : Int) := by omega
              have cb : (e : Int) < (b : Int) := by omega
              have hc := HIH.out mid e b y0 _ HPR1.out HN1.out HF1.out (by omega) (by omega) (by omega) (by have := E3.out; omega)
              obtain ⟨y2, hy2⟩ : ∃ y2, y2 = symM (0 : Int) (lt_i cf) F mid e b y0 := ⟨_, rfl⟩
              rw [← hy2] at hc
              have HY2 := Aside0.mk hy2
              have HPR3 := Aside0.mk (show ∀ x ∈ y2, Pr x by rw [hy2]; exact symM_all HZ.out _ _ _ _ _ HPR1.out)
              have HCC := Aside0.mk hc
              clear hc hy2
              go_wp2_with (go_at_call 67; refine HCC.out.mono ?_; rintro e9 w9 ⟨rfl, hn1, hf1⟩; have HN3 := Aside0.mk hn1; have HF3 := Aside0.mk hf1; clear hn1 hf1)
              clear ca cb
              go_end0
              exact ⟨rfl, by rw [HR2.out y0 y0 (by rw [← HYi.out]; exact (HY0.out.trans (if_pos c0).symm)) (if_neg c1).symm]; exact (show y2 = (if mid < e ∧ e < b then symM (0 : Int) (lt_i cf) F mid e b y0 else y0) from (HY2.out.trans (if_pos c2).symm)) ▸ HN3.out, HF3.out⟩
            · have b2 : ((decide (mid < e ∧ e < b))) = false := decide_eq_false c2
              have BB2 := Aside0.mk b2
              clear b2
              by_cases ca0 : mid < e
              · have ca : (mid : Int) < (e : Int) := by omega
                have cb : ¬ (e : Int) < (b : Int) := by omega
                go_wp2_with (fail)
                clear ca cb ca0
                go_end0
                exact ⟨rfl, by rw [HR2.out y0 y0 (by rw [← HYi.out]; exact (HY0.out.trans (if_pos c0).symm)) (if_neg c1).symm]; exact (show y0 = (if mid < e ∧ e < b then symM (0 : Int) (lt_i cf) F mid e b y0 else y0) from (if_neg c2).symm) ▸ HN1.out, HF1.out⟩
              · have ca : ¬ (mid : Int) < (e : Int) := by omega
                go_wp2_with (fail)
                clear ca ca0
                go_end0
                exact ⟨rfl, by rw [HR2.out y0 y0 (by rw [← HYi.out]; exact (HY0.out.trans (if_pos c0).symm)) (if_neg c1).symm]; exact (show y0 = (if mid < e ∧ e < b then symM (0 : Int) (lt_i cf) F mid e b y0 else y0) from (if_neg c2).symm) ▸ HN1.out, HF1.out⟩
      · have b0 : ((decide (i < m ∧ m < e))) = false := decide_eq_false c0
        have BB0 := Aside0.mk b0
        clear b0
        go_upto_region 39 with (fail)
        by_cases ca0 : i < m
        · have ca : (i : Int) < (m : Int) := by omega
          have cb : ¬ (m : Int) < (e : Int) := by omega
          go_upto_region 41 with (fail)
          clear ca cb ca0
          by_cases c1 : a < i ∧ i < mid
          · have b1 : ((decide (a < i ∧ i < mid))) = true := decide_eq_true c1
            have BB1 := Aside0.mk b1
            clear b1
            have ca : (a : Int) < (i : Int) := by omega
            have cb : (i : Int) < (mid : Int) := by omega
            have hc := HIH.out a i mid ys _ HPRi.out HNi.out HFi.out (by omega) (by omega) (by omega) (by have := E3.out; omega)
            obtain ⟨y1, hy1⟩ : ∃ y1, y1 = symM (0 : Int) (lt_i cf) F a i mid ys := ⟨_, rfl⟩
            rw [← hy1] at hc
            have HY1 := Aside0.mk hy1
            have HPR2 := Aside0.mk (show ∀ x ∈ y1, Pr x by rw [hy1]; exact symM_all HZ.out _ _ _ _ _ HPRi.out)
            have HCC := Aside0.mk hc
            clear hc hy1
            go_upto_region 43 with (go_at_call 67; refine HCC.out.mono ?_; rintro e9 w8 ⟨rfl, hn1, hf1⟩; have HN2 := Aside0.mk hn1; have HF2 := Aside0.mk hf1; clear hn1 hf1)
            clear ca cb
            by_cases c2 : mid < e ∧ e < b
            · have b2 : ((decide (mid < e ∧ e < b))) = true := decide_eq_true c2
              have BB2 := Aside0.mk b2
              clear b2
              have ca : (mid : Int) < (e : Int) := by omega
              have cb : (e : Int) < (b : Int) := by omega
              have hc := HIH.out mid e b y1 _ HPR2.out HN2.out HF2.out (by omega) (by omega) (by omega) (by have := E3.out; omega)
              obtain ⟨y2, hy2⟩ : ∃ y2, y2 = symM (0 : Int) (lt_i cf) F mid e b y1 := ⟨_, rfl⟩
              rw [← hy2] at hc
              have HY2 := Aside0.mk hy2
              have HPR3 := Aside0.mk (show ∀ x ∈ y2, Pr x by rw [hy2]; exact symM_all HZ.out _ _ _ _ _ HPR2.out)
              have HCC := Aside0.mk hc
              clear hc hy2
              go_wp2_with (go_at_call 67; refine HCC.out.mono ?_; rintro e9 w9 ⟨rfl, hn1, hf1⟩; have HN3 := Aside0.mk hn1; have HF3 := Aside0.mk hf1; clear hn1 hf1)
              clear ca cb
              go_end0
              exact ⟨rfl, by rw [HR2.out ys y1 (by rw [← HYi.out]; exact (if_neg c0).symm) (HY1.out.trans (if_pos c1).symm)]; exact (show y2 = (if mid < e ∧ e < b then symM (0 : Int) (lt_i cf) F mid e b y1 else y1) from (HY2.out.trans (if_pos c2).symm)) ▸ HN3.out, HF3.out⟩
            · have b2 : ((decide (mid < e ∧ e < b))) = false := decide_eq_false c2
              have BB2 := Aside0.mk b2
              clear b2
              by_cases ca0 : mid < e
              · have ca : (mid : Int) < (e : Int) := by omega
                have cb : ¬ (e : Int) < (b : Int) := by omega
                go_wp2_with (fail)
                clear ca cb ca0
                go_end0
                exact ⟨rfl, by rw [HR2.out ys y1 (by rw [← HYi.out]; exact (if_neg c0).symm) (HY1.out.trans (if_pos c1).symm)]; exact (show y1 = (if mid < e ∧ e < b then symM (0 : Int) (lt_i cf) F mid e b y1 else y1) from (if_neg c2).symm) ▸ HN2.out, HF2.out⟩
              · have ca : ¬ (mid : Int) < (e : Int) := by omega
                go_wp2_with (fail)
                clear ca ca0
                go_end0
                exact ⟨rfl, by rw [HR2.out ys y1 (by rw [← HYi.out]; exact (if_neg c0).symm) (HY1.out.trans (if_pos c1).symm)]; exact (show y1 = (if mid < e ∧ e < b then symM (0 : Int) (lt_i cf) F mid e b y1 else y1) from (if_neg c2).symm) ▸ HN2.out, HF2.out⟩
          · have b1 : ((decide (a < i ∧ i < mid))) = false := decide_eq_false c1
            have BB1 := Aside0.mk b1
            clear b1
            by_cases ca0 : a < i
            · have ca : (a : Int) < (i : Int) := by omega
              have cb : ¬ (i : Int) < (mid : Int) := by omega
              go_upto_region 43 with (fail)
              clear ca cb ca0
              by_cases c2 : mid < e ∧ e < b
              · have b2 : ((decide (mid < e ∧ e < b))) = true := decide_eq_true c2
                have BB2 := Aside0.mk b2
                clear b2
                have ca : (mid : Int) < (e : Int) := by omega
                have cb : (e : Int) < (b : Int) := by omega
                have hc := HIH.out mid e b ys _ HPRi.out HNi.out HFi.out (by omega) (by omega) (by omega) (by have := E3.out; omega)
                obtain ⟨y2, hy2⟩ : ∃ y2, y2 = symM (0 : Int) (lt_i cf) F mid e b ys := ⟨_, rfl⟩
                rw [← hy2] at hc
                have HY2 := Aside0.mk hy2
                have HPR3 := Aside0.mk (show ∀ x ∈ y2, Pr x by rw [hy2]; exact symM_all HZ.out _ _ _ _ _ HPRi.out)
                have HCC := Aside0.mk hc
                clear hc hy2
                go_wp2_with (go_at_call 67; refine HCC.out.mono ?_; rintro e9 w9 ⟨rfl, hn1, hf1⟩; have HN3 := Aside0.mk hn1; have HF3 := Aside0.mk hf1; clear hn1 hf1)
                clear ca cb
                go_end0
                exact ⟨rfl, by rw [HR2.out ys ys (by rw [← HYi.out]; exact (if_neg c0).symm) (if_neg c1).symm]; exact (show y2 = (if mid < e ∧ e < b then symM (0 : Int) (lt_i cf) F mid e b ys else ys) from (HY2.out.trans (if_pos c2).symm)) ▸ HN3.out, HF3.out⟩
              · have b2 : ((decide (mid < e ∧ e < b))) = false := decide_eq_false c2
                have BB2 := Aside0.mk b2
                clear b2
                by_cases ca0 : mid < e
                · have ca : (mid : Int) < (e : Int) := by omega
                  have cb : ¬ (e : Int) < (b : Int) := by omega
                  go_wp2_with (fail)
                  clear ca cb ca0
                  go_end0
                  exact ⟨rfl, by rw [HR2.out ys ys (by rw [← HYi.out]; exact (if_neg c0).symm) (if_neg c1).symm]; exact (show ys = (if mid < e ∧ e < b then symM (0 : Int) (lt_i cf) F mid e b ys else ys) from (if_neg c2).symm) ▸ HNi.out, HFi.out⟩
                · have ca : ¬ (mid : Int) < (e : Int) := by omega
                  go_wp2_with (fail)
                  clear ca ca0
                  go_end0
                  exact ⟨rfl, by rw [HR2.out ys ys (by rw [← HYi.out]; exact (if_neg c0).symm) (if_neg c1).symm]; exact (show ys = (if mid < e ∧ e < b then symM (0 : Int) (lt_i cf) F mid e b ys else ys) from (if_neg c2).symm) ▸ HNi.out, HFi.out⟩
            · have ca : ¬ (a : Int) < (i : Int) := by omega
              go_upto_region 43 with (fail)
              clear ca ca0
              by_cases c2 : mid < e ∧ e < b
              · have b2 : ((decide (mid < e ∧ e < b))) = true := decide_eq_true c2
                have BB2 := Aside0.mk b2
                clear b2
                have ca : (mid : Int) < (e : Int) := by omega
                have cb : (e : Int) < (b : Int) := by omega
                have hc := HIH.out mid e b ys _ HPRi.out HNi.out HFi.out (by omega) (by omega) (by omega) (by have := E3.out; omega)
                obtain ⟨y2, hy2⟩ : ∃ y2, y2 = symM (0 : Int) (lt_i cf) F mid e b ys := ⟨_, rfl⟩
                rw [← hy2] at hc
                have HY2 := Aside0.mk hy2
                have HPR3 := Aside0.mk (show ∀ x ∈ y2, Pr x by rw [hy2]; exact symM_all HZ.out _ _ _ _ _ HPRi.out)
                have HCC := Aside0.mk hc
                clear hc hy2
                go_wp2_with (go_at_call 67; refine HCC.out.mono ?_; rintro e9 w9 ⟨rfl, hn1, hf1⟩; have HN3 := Aside0.mk hn1; have HF3 := Aside0.mk hf1; clear hn1 hf1)
                clear ca cb
                go_end0
                exact ⟨rfl, by rw [HR2.out ys ys (by rw [← HYi.out]; exact (if_neg c0).symm) (if_neg c1).symm]; exact (show y2 = (if mid < e ∧ e < b then symM (0 : Int) (lt_i cf) F mid e b ys else ys) from (HY2.out.trans (if_pos c2).symm)) ▸ HN3.out, HF3.out⟩
              · have b2 : ((decide (mid < e ∧ e < b))) = false := decide_eq_false c2
                have BB2 := Aside0.mk b2
                clear b2
                by_cases ca0 : mid < e
                · have ca : (mid : Int) < (e : Int) := by omega
                  have cb : ¬ (e : Int) < (b : Int) := by omega
                  go_wp2_with (fail)
                  clear ca cb ca0
                  go_end0
                  exact ⟨rfl, by rw [HR2.out ys ys (by rw [← HYi.out]; exact (if_neg c0).symm) (if_neg c1).symm]; exact (show ys = (if mid < e ∧ e < b then symM (0 : Int) (lt_i cf) F mid e b ys else ys) from (if_neg c2).symm) ▸ HNi.out, HFi.out⟩
                · have ca : ¬ (mid : Int) < (e : Int) := by omega
                  go_wp2_with (fail)
                  clear ca ca0
                  go_end0
                  exact ⟨rfl, by rw [HR2.out ys ys (by rw [← HYi.out]; exact (if_neg c0).symm) (if_neg c1).symm]; exact (show ys = (if mid < e ∧ e < b then symM (0 : Int) (lt_i cf) F mid e b ys else ys) from (if_neg c2).symm) ▸ HNi.out, HFi.out⟩
        · have ca : ¬ (i : Int) < (m : Int) := by omega
          go_upto_region 41 with (fail)
          clear ca ca0
          by_cases c1 : a < i ∧ i < mid
          · have b1 : ((decide (a < i ∧ i < mid))) = true := decide_eq_true c1
            have BB1 := Aside0.mk b1
            clear b1
            have ca : (a : Int) < (i : Int) := by omega
            have cb : (i : Int) < (mid : Int) := by omega
            have hc := HIH.out a i mid ys _ HPRi.out HNi.out HFi.out (by omega) (by omega) (by omega) (by have := E3.out; omega)
            obtain ⟨y1, hy1⟩ : ∃ y1, y1 = symM (0 : Int) (lt_i cf) F a i mid ys := ⟨_, rfl⟩
            rw [← hy1] at hc
            have HY1 := Aside0.mk hy1
            have HPR2 := Aside0.mk (show ∀ x ∈ y1, Pr x by rw [hy1]; exact symM_all HZ.out _ _ _ _ _ HPRi.out)
            have HCC := Aside0.mk hc
            clear hc hy1
            go_upto_region 43 with (go_at_call 67; refine HCC.out.mono ?_; rintro e9 w8 ⟨rfl, hn1, hf1⟩; have HN2 := Aside0.mk hn1; have HF2 := Aside0.mk hf1; clear hn1 hf1)
            clear ca cb
            by_cases c2 : mid < e ∧ e < b
            · have b2 : ((decide (mid < e ∧ e < b))) = true := decide_eq_true c2
              have BB2 := Aside0.mk b2
              clear b2
              have ca : (mid : Int) < (e : Int) := by omega
              have cb : (e : Int) < (b : Int) := by omega
              have hc := HIH.out mid e b y1 _ HPR2.out HN2.out HF2.out (by omega) (by omega) (by omega) (by have := E3.out; omega)
              obtain ⟨y2, hy2⟩ : ∃ y2, y2 = symM (0 : Int) (lt_i cf) F mid e b y1 := ⟨_, rfl⟩
              rw [← hy2] at hc
              have HY2 := Aside0.mk hy2
              have HPR3 := Aside0.mk (show ∀ x ∈ y2, Pr x by rw [hy2]; exact symM_all HZ.out _ _ _ _ _ HPR2.out)
              have HCC := Aside0.mk hc
              clear hc hy2
              go_wp2_with (go_at_call 67; refine HCC.out.mono ?_; rintro e9 w9 ⟨rfl, hn1, hf1⟩; have HN3 := Aside0.mk hn1; have HF3 := Aside0.mk hf1; clear hn1 hf1)
              clear ca cb
              go_end0
              exact ⟨rfl, by rw [HR2.out ys y1 (by rw [← HYi.out]; exact (if_neg c0).symm) (HY1.out.trans (if_pos c1).symm)]; exact (show y2 = (if mid < e ∧ e < b then symM (0 : Int) (lt_i cf) F mid e b y1 else y1) from (HY2.out.trans (if_pos c2).symm)) ▸ HN3.out, HF3.out⟩
            · have b2 : ((decide (mid < e ∧ e < b))) = false := decide_eq_false c2
              have BB2 := Aside0.mk b2
              clear b2
              by_cases ca0 : mid < e
              · have ca : (mid : Int) < (e : Int) := by omega
                have cb : ¬ (e : Int) < (b : Int) := by omega
                go_wp2_with (fail)
                clear ca cb ca0
                go_end0
                exact ⟨rfl, by rw [HR2.out ys y1 (by rw [← HYi.out]; exact (if_neg c0).symm) (HY1.out.trans (if_pos c1).symm)]; exact (show y1 = (if mid < e ∧ e < b then symM (0 : Int) (lt_i cf) F mid e b y1 else y1) from (if_neg c2).symm) ▸ HN2.out, HF2.out⟩
              · have ca : ¬ (mid : Int) < (e : Int) := by omega
                go_wp2_with (fail)
                clear ca ca0
                go_end0
                exact ⟨rfl, by rw [HR2.out ys y1 (by rw [← HYi.out]; exact (if_neg c0).symm) (HY1.out.trans (if_pos c1).symm)]; exact (show y1 = (if mid < e ∧ e < b then symM (0 : Int) (lt_i cf) F mid e b y1 else y1) from (if_neg c2).symm) ▸ HN2.out, HF2.out⟩
          · have b1 : ((decide (a < i ∧ i < mid))) = false := decide_eq_false c1
            have BB1 := Aside0.mk b1
            clear b1
            by_cases ca0 : a < i
            · have ca : (a : Int) < (i : Int) := by omega
              have cb : ¬ (i : Int) < (mid : Int) := by omega
              go_upto_region 43 with (fail)
              clear ca cb ca0
              by_cases c2 : mid < e ∧ e < b
              · have b2 : ((decide (mid < e ∧ e < b))) = true := decide_eq_true c2
                have BB2 := Aside0.mk b2
                clear b2
                have ca : (mid : Int) < (e : Int) := by omega
                have cb : (e : Int) < (b : Int) := by omega
                have hc := HIH.out mid e b ys _ HPRi.out HNi.out HFi.out (by omega) (by omega) (by omega) (by have := E3.out; omega)
                obtain ⟨y2, hy2⟩ : ∃ y2, y2 = symM (0 : Int) (lt_i cf) F mid e b ys := ⟨_, rfl⟩
                rw [← hy2] at hc
                have HY2 := Aside0.mk hy2
                have HPR3 := Aside0.mk (show ∀ x ∈ y2, Pr x by rw [hy2]; exact symM_all HZ.out _ _ _ _ _ HPRi.out)
                have HCC := Aside0.mk hc
                clear hc hy2
                go_wp2_with (go_at_call 67; refine HCC.out.mono ?_; rintro e9 w9 ⟨rfl, hn1, hf1⟩; have HN3 := Aside0.mk hn1; have HF3 := Aside0.mk hf1; clear hn1 hf1)
                clear ca cb
                go_end0
                exact ⟨rfl, by rw [HR2.out ys ys (by rw [← HYi.out]; exact (if_neg c0).symm) (if_neg c1).symm]; exact (show y2 = (if mid < e ∧ e < b then symM (0 : Int) (lt_i cf) F mid e b ys else ys) from (HY2.out.trans (if_pos c2).symm)) ▸ HN3.out, HF3.out⟩
              · have b2 : ((decide (mid < e ∧ e < b))) = false := decide_eq_false c2
                have BB2 := Aside0.mk b2
                clear b2
                by_cases ca0 : mid < e
                · have ca : (mid : Int) < (e : Int) := by omega
                  have cb : ¬ (e : Int) < (b : Int) := by omega
                  go_wp2_with (fail)
                  clear ca cb ca0
                  go_end0
                  exact ⟨rfl, by rw [HR2.out ys ys (by rw [← HYi.out]; exact (if_neg c0).symm) (if_neg c1).symm]; exact (show ys = (if mid < e ∧ e < b then symM (0 : Int) (lt_i cf) F mid e b ys else ys) from (if_neg c2).symm) ▸ HNi.out, HFi.out⟩
                · have ca : ¬ (mid : Int) < (e : Int) := by omega
                  go_wp2_with (fail)
                  clear ca ca0
                  go_end0
                  exact ⟨rfl, by rw [HR2.out ys ys (by rw [← HYi.out]; exact (if_neg c0).symm) (if_neg c1).symm]; exact (show ys = (if mid < e ∧ e < b then symM (0 : Int) (lt_i cf) F mid e b ys else ys) from (if_neg c2).symm) ▸ HNi.out, HFi.out⟩
            · have ca : ¬ (a : Int) < (i : Int) := by omega
              go_upto_region 43 with (fail)
              clear ca ca0
              by_cases c2 : mid < e ∧ e < b
              · have b2 : ((decide (mid < e ∧ e < b))) = true := decide_eq_true c2
                have BB2 := Aside0.mk b2
                clear b2
                have ca : (mid : Int) < (e : Int) := by omega
                have cb : (e : Int) < (b : Int) := by omega
                have hc := HIH.out mid e b ys _ HPRi.out HNi.out HFi.out (by omega) (by omega) (by omega) (by have := E3.out; omega)
                obtain ⟨y2, hy2⟩ : ∃ y2, y2 = symM (0 : Int) (lt_i cf) F mid e b ys := ⟨_, rfl⟩
                rw [← hy2] at hc
                have HY2 := Aside0.mk hy2
                have HPR3 := Aside0.mk (show ∀ x ∈ y2, Pr x by rw [hy2]; exact symM_all HZ.out _ _ _ _ _ HPRi.out)
                have HCC := Aside0.mk hc
                clear hc hy2
                go_wp2_with (go_at_call 67; refine HCC.out.mono ?_; rintro e9 w9 ⟨rfl, hn1, hf1⟩; have HN3 := Aside0.mk hn1; have HF3 := Aside0.mk hf1; clear hn1 hf1)
                clear ca cb
                go_end0
                exact ⟨rfl, by rw [HR2.out ys ys (by rw [← HYi.out]; exact (if_neg c0).symm) (if_neg c1).symm]; exact (show y2 = (if mid < e ∧ e < b then symM (0 : Int) (lt_i cf) F mid e b ys else ys) from (HY2.out.trans (if_pos c2).symm)) ▸ HN3.out, HF3.out⟩
              · have b2 : ((decide (mid < e ∧ e < b))) = false := decide_eq_false c2
                have BB2 := Aside0.mk b2
                clear b2
                by_cases ca0 : mid < e
                · have ca : (mid : Int) < (e : Int) := by omega
                  have cb : ¬ (e : Int) < (b : Int) := by omega
                  go_wp2_with (fail)
                  clear ca cb ca0
                  go_end0
                  exact ⟨rfl, by rw [HR2.out ys ys (by rw [← HYi.out]; exact (if_neg c0).symm) (if_neg c1).symm]; exact (show ys = (if mid < e ∧ e < b then symM (0 : Int) (lt_i cf) F mid e b ys else ys) from (if_neg c2).symm) ▸ HNi.out, HFi.out⟩
                · have ca : ¬ (mid : Int) < (e : Int) := by omega
                  go_wp2_with (fail)
                  clear ca ca0
                  go_end0
                  exact ⟨rfl, by rw [HR2.out ys ys (by rw [← HYi.out]; exact (if_neg c0).symm) (if_neg c1).symm]; exact (show ys = (if mid < e ∧ e < b then symM (0 : Int) (lt_i cf) F mid e b ys else ys) from (if_neg c2).symm) ▸ HNi.out, HFi.out⟩
end

section
theorem insG_stop {α : Type} (z : α) (lt : α → α → Bool) (a : Nat) (xs : List α) : insG z lt a a xs = xs := by
  cases a with
  | zero => rfl
  | succ a => rw [insG, if_neg (fun h => Nat.lt_irrefl _ h.1)]
/-- What remains from i on. -/
def insFr {α : Type} (z : α) (lt : α → α → Bool) (a b i : Nat) (xs : List α) : List α := (List.range' i (b - i)).foldl (fun ys i => insG z lt a i ys) xs
theorem insFr_step {α : Type} (z : α) (lt : α → α → Bool) (a b i : Nat) (xs : List α) (h : i < b) : insFr z lt a b i xs = insFr z lt a b (i + 1) (insG z lt a i xs) := by
  unfold insFr
  rw [show b - i = (b - (i + 1)) + 1 by omega, List.range'_succ, List.foldl_cons]
theorem insFr_end {α : Type} (z : α) (lt : α → α → Bool) (a b i : Nat) (xs : List α) (h : b ≤ i) : insFr z lt a b i xs = xs := by
  unfold insFr
  rw [show b - i = 0 by omega]
  rfl
set_option maxHeartbeats 4000000 in
set_option maxRecDepth 100000 in
theorem insO_i (g n cap : Nat) (Pr : Int → Prop) (hz0 : Pr 0) (K : Nat) (lb : Array Value) (cf : Int → Int → Int) (base : Nat) (ok : Nat → Prop) (w0 : World) (hn : n ≤ 1000000)
    (eg : ∀ args w, (callFunc K args).run Try.prog w = .ok (.enter K args) w)
    (hcmp : ∀ (x y : Int) W, Pr x → Pr y → Fr (· = g) w0 W → Calls Try.prog K (#[.int .i64 x, .int .i64 y] ++ lb) W fun e w' => e = .returned (.int .i64 (cf x y)) ∧ Below W.heap.size W w') (a b : Nat) (xs : List Int) (hpr : ∀ x ∈ xs, Pr x) (w : World) (hN : Kd.N (Kd.int .i64) 3 w base ok (.slice (some ⟨g, 0, none⟩) n cap) xs) (hF : Fr (· = g) w0 w) (ha : a ≤ n) (hb : b ≤ n) :
    Calls Try.prog 66 #[.slice (some ⟨g, 0, none⟩) n cap, .int .i64 (a : Int), .int .i64 (b : Int), .func (.func K) #[] lb] w fun e w' => e = .returned (.tuple #[]) ∧ Kd.N (Kd.int .i64) 3 w' base ok (.slice (some ⟨g, 0, none⟩) n cap) (insO (0 : Int) (lt_i cf) a b xs) ∧ Fr (· = g) w0 w' := by
  have HN0 := Aside0.mk hN
  have HF0 := Aside0.mk hF
  have HC := Aside0.mk hcmp
  have HPR0 := Aside0.mk hpr
  have HZ := Aside0.mk hz0
  clear hpr hz0
  clear hN hF hcmp
  by_cases hab : a < b
  case neg =>
    have hz : ¬ (a : Int) + 1 < (b : Int) := by omega
    have he : insO (0 : Int) (lt_i cf) a b xs = xs := insFr_end _ _ a b (a + 1) xs (by omega)
    rw [he]
    clear he
    go_enter Try.func66, Try.ntmps66
    go_wp2_with fail
    refine wp_loop_rounds 1 ?_
    rw [rounds_succ]
    go_wp2_with fail
    go_end0
    exact ⟨rfl, HN0.out, HF0.out⟩
  go_enter Try.func66, Try.ntmps66
  go_wp2
  go_loopg [8, 9] (b - a) (fun gg v8 _ wr => ∃ (i : Nat) (ys : List Int), v8 = .int .i64 (i : Int) ∧ a < i ∧ i ≤ b + 1 ∧ b + 1 - i ≤ gg + 1 ∧ Aside0 (Kd.N (Kd.int .i64) 3 wr base ok (.slice (some ⟨g, 0, none⟩) n cap) ys) ∧ Aside0 (Fr (· = g) w0 wr) ∧ Aside0 (insFr (0 : Int) (lt_i cf) a b i ys = insO (0 : Int) (lt_i cf) a b xs) ∧ Aside0 (∀ x ∈ ys, Pr x))
  case atStart => exact ⟨a + 1, xs, by go_num, by omega, by omega, by omega, HN0, HF0, ⟨rfl⟩, HPR0⟩
  case round =>
    obtain ⟨i, ys, rfl, hai, hib, hg1, HNi, HFi, HIi, HPRi⟩ := hrel
    by_cases hlt : i < b
    · have hltz : (i : Int) < (b : Int) := by omega
      go_wp2
      go_loopg [9] i (fun g2 vj wr2 => ∃ (j : Nat) (zs : List Int), vj = .int .i64 (j : Int) ∧ a ≤ j ∧ j ≤ i ∧ j ≤ g2 ∧ Aside0 (Kd.N (Kd.int .i64) 3 wr2 base ok (.slice (some ⟨g, 0, none⟩) n cap) zs) ∧ Aside0 (Fr (· = g) w0 wr2) ∧ Aside0 (insG (0 : Int) (lt_i cf) a j zs = insG (0 : Int) (lt_i cf) a i ys) ∧ Aside0 (∀ x ∈ zs, Pr x))
      case atStart => exact ⟨i, ys, rfl, by omega, Nat.le_refl _, Nat.le_refl _, HNi, HFi, ⟨rfl⟩, HPRi⟩
      case round =>
        obtain ⟨j, zs, rfl, haj, hji, hg2, HNj, HFj, HIj, HPRj⟩ := hrel
        by_cases hja : a < j
        · obtain ⟨q, rfl⟩ : ∃ q, j = q + 1 := ⟨j - 1, by omega⟩
          obtain ⟨hFx, q0, z0⟩ := own_int HNj.out (q + 1) (by omega)
          obtain ⟨hFy, p0, y0⟩ := own_int HNj.out q (by omega)
          have hst : insG (0 : Int) (lt_i cf) a (q + 1) zs = if a < q + 1 ∧ lt_i cf (zs.getD (q + 1) (0 : Int)) (zs.getD q (0 : Int)) = true then insG (0 : Int) (lt_i cf) a q (sw (0 : Int) zs (q + 1) q) else zs := rfl
          rw [hst] at HIj
          have hcall := fun (p : Gr wr) => HC.out (zs.getD (q + 1) 0) (zs.getD q 0) p.w (pr_getD HPRj.out HZ.out _) (pr_getD HPRj.out HZ.out _) (HFj.out.below p.h)
          have HSW := Aside0.mk (show sw (0 : Int) zs (q + 1) q = (zs.set (q + 1) (zs.getD q (0 : Int))).set q (zs.getD (q + 1) (0 : Int)) from rfl)
          have HPR2 := Aside0.mk (sw_all HPRj.out HZ.out (q + 1) q)
          have HFx := Aside0.mk hFx
          have HFy := Aside0.mk hFy
          clear hFx hFy hst
          generalize zs.getD (q + 1) (0 : Int) = x at *
          generalize zs.getD q (0 : Int) = y at *
          generalize sw (0 : Int) zs (q + 1) q = zs2 at *
          have hwp : IntKind.i64.wrap (q : Int) = (q : Int) := by rw [IntKind.wrap_i64]; omega
          have jz : (q : Int) + 1 < (n : Int) := by omega
          have jz1 : (q : Int) < (n : Int) := by omega
          have hjaz' : (a : Int) < (q : Int) + 1 := by omega
          have jp0 : (0 : Int) ≤ (q : Int) + 1 := by omega
          have je0 : ((q : Int) + 1).toNat = q + 1 := by omega
          by_cases hlv : cf x y < 0
          · rw [if_pos ⟨hja, decide_eq_true hlv⟩] at HIj
            have HCA := Aside0.mk hcall
            have hlv2 : decide (cf x y < 0) = true := decide_eq_true hlv
            clear hcall hlv
            generalize cf x y = v at *
            obtain ⟨wo, rfl⟩ : ∃ wo, wo = wr := ⟨_, rfl⟩
            go_wp2_with fail
            have Q0 := fun p => Gr.cell q0 p
            have P0 := fun p => Gr.cell p0 p
            refine wp_region_gr (by kernel_rfl) (by kernel_rfl) ?_
            repeat (quiet_step ((go_at_fn K; exact Calls.gr_of (HCA.out _))))
            refine wpQuiet_nil ?_
            intro w3 hw'
            have hb3 : Below wo.heap.size wo w3 := by obtain ⟨p, rfl⟩ := hw'; exact p.h
            clear hw' Q0 P0
            have lg := World.block_lt_of_cell? wo _ q0
            replace q0 := (hb3.cell (p := ⟨g, q + 1, none⟩) lg).trans q0
            replace p0 := (hb3.cell (p := ⟨g, q, none⟩) lg).trans p0
            replace z0 := (hb3.frozen (p := ⟨g, q + 1, none⟩) lg).trans z0
            replace y0 := (hb3.frozen (p := ⟨g, q, none⟩) lg).trans y0
            have HN3 := Aside0.mk (Kd.N_below HNj.out hb3)
            have HB3 := Aside0.mk hb3
            clear hb3 lg
            go_wp2_with fail
            go_region
            obtain ⟨w4, hw4⟩ : ∃ w4, w4 = ((w3.setCell ⟨g, q + 1, none⟩ (.int .i64 y)).setCell ⟨g, q, none⟩ (.int .i64 x)) := ⟨_, rfl⟩
            rw [← hw4]
            obtain ⟨hN4, hF4⟩ := swap2_i HN3.out (q + 1) q (by omega) (by omega) (Kd.FK_step HFx.out (fun k hk hlt => HB3.out.block k hlt)) (Kd.FK_step HFy.out (fun k hk hlt => HB3.out.block k hlt))
            rw [← hw4, ← HSW.out] at hN4
            rw [← hw4] at hF4
            have HN4 := Aside0.mk (Kd.N_drew hN4)
            have HF4 := Aside0.mk (((HFj.out.below HB3.out).trans hF4).drew)
            clear hN4 hF4 hw4 q0 p0 z0 y0 HFx HFy
            go_wp2_with fail
            go_roundg q
            case measure => omega
            case rel => exact ⟨q, zs2, by go_num, by omega, by omega, by omega, HN4, HF4, HIj, HPR2⟩
          · rw [if_neg (fun h => hlv (of_decide_eq_true h.2))] at HIj
            have HCA := Aside0.mk hcall
            have hlv2 : decide (cf x y < 0) = false := decide_eq_false hlv
            clear hcall hlv
            generalize cf x y = v at *
            obtain ⟨wo, rfl⟩ : ∃ wo, wo = wr := ⟨_, rfl⟩
            go_wp2_with fail
            have Q0 := fun p => Gr.cell q0 p
            have P0 := fun p => Gr.cell p0 p
            refine wp_region_gr (by kernel_rfl) (by kernel_rfl) ?_
            repeat (quiet_step ((go_at_fn K; exact Calls.gr_of (HCA.out _))))
            refine wpQuiet_nil ?_
            intro w3 hw'
            have hb3 : Below wo.heap.size wo w3 := by obtain ⟨p, rfl⟩ := hw'; exact p.h
            have HN3 := Aside0.mk (Kd.N_below HNj.out hb3)
            have HF3 := Aside0.mk (HFj.out.below hb3)
            have HI3 := Aside0.mk (show insFr (0 : Int) (lt_i cf) a b (i + 1) zs = insO (0 : Int) (lt_i cf) a b xs by rw [← HIi.out, insFr_step _ _ a b i ys hlt, HIj.out])
            clear hw' Q0 P0 q0 p0 z0 y0 HFx HFy hb3
            go_wp2_with fail
            go_roundg (b - (i + 1))
            case measure => omega
            case rel => exact ⟨i + 1, zs, by go_num, by omega, by omega, by omega, HN3, HF3, HI3, HPRj⟩
        · obtain rfl : j = a := by omega
          have HI3 := Aside0.mk (show insFr (0 : Int) (lt_i cf) j b (i + 1) zs = insO (0 : Int) (lt_i cf) j b xs by rw [← HIi.out, insFr_step _ _ j b i ys hlt, ← HIj.out, insG_stop])
          have hja2 : decide ((j : Int) < (j : Int)) = false := decide_eq_false (by omega)
          obtain ⟨wo, rfl⟩ : ∃ wo, wo = wr := ⟨_, rfl⟩
          go_wp2_with fail
          go_quiet (fail)
          have HN3 := Aside0.mk (Kd.N_drewN HNj.out nq)
          have HF3 := Aside0.mk (HFj.out.drewN nq)
          go_wp2_with fail
          go_roundg (b - (i + 1))
          case measure => omega
          case rel => exact ⟨i + 1, zs, by go_num, by omega, by omega, by omega, HN3, HF3, HI3, HPRj⟩
    · have hltz : ¬ (i : Int) < (b : Int) := by omega
      have HI3 := Aside0.mk (show ys = insO (0 : Int) (lt_i cf) a b xs by rw [← HIi.out, insFr_end _ _ a b i ys (by omega)])
      go_wp2_with fail
      go_end0
      exact ⟨rfl, by rw [← HI3.out]; exact HNi.out, HFi.out⟩

theorem isort_all_i {Pr : Int → Prop} {lt : Int → Int → Bool} {xs : List Int} (h : ∀ x ∈ xs, Pr x) : ∀ x ∈ isort lt xs, Pr x := fun x hx => h x ((isort_perm (lt := lt) xs).mem_iff.mp hx)
set_option maxHeartbeats 4000000 in
set_option maxRecDepth 100000 in
theorem stable_i (g n cap : Nat) (Pr : Int → Prop) (hz0 : Pr 0) (K : Nat) (lb : Array Value) (cf : Int → Int → Int) (base : Nat) (ok : Nat → Prop) (w0 : World) (hn : n ≤ 1000000)
    (eg : ∀ args w, (callFunc K args).run Try.prog w = .ok (.enter K args) w)
    (hcmp : ∀ (x y : Int) W, Pr x → Pr y → Fr (· = g) w0 W → Calls Try.prog K (#[.int .i64 x, .int .i64 y] ++ lb) W fun e w' => e = .returned (.int .i64 (cf x y)) ∧ Below W.heap.size W w') (hso : SO (lt_i cf)) (xs : List Int) (hpr : ∀ x ∈ xs, Pr x) (w : World) (hN : Kd.N (Kd.int .i64) 3 w base ok (.slice (some ⟨g, 0, none⟩) n cap) xs) (hF : Fr (· = g) w0 w) (hxs : xs.length = n) :
    Calls Try.prog 61 #[.slice (some ⟨g, 0, none⟩) n cap, .int .i64 (n : Int), .func (.func K) #[] lb] w fun e w' => e = .returned (.tuple #[]) ∧ Kd.N (Kd.int .i64) 3 w' base ok (.slice (some ⟨g, 0, none⟩) n cap) (isort (lt_i cf) xs) ∧ Fr (· = g) w0 w' := by
  have HN0 := Aside0.mk hN
  have HF0 := Aside0.mk hF
  have HO := Aside0.mk hso
  have HXS := Aside0.mk hxs
  have HINS := Aside0.mk (insO_i g n cap Pr hz0 K lb cf base ok w0 hn eg hcmp)
  have HSYM := Aside0.mk (symg_i g n cap Pr hz0 K lb cf base ok w0 hn eg hcmp)
  have HPR0 := Aside0.mk hpr
  have HZ := Aside0.mk hz0
  clear hpr hz0
  clear hN hF hcmp hso hxs
  go_enter Try.func61, Try.ntmps61
  go_wp2_with fail
  go_loopg [7, 8] n (fun gg va vb wr => ∃ (q a b : Nat) (ys : List Int), va = .int .i64 (a : Int) ∧ vb = .int .i64 (b : Int) ∧ a = 20 * q ∧ b = a + 20 ∧ a ≤ n ∧ n - a ≤ gg ∧ Aside0 (Kd.N (Kd.int .i64) 3 wr base ok (.slice (some ⟨g, 0, none⟩) n cap) ys) ∧ Aside0 (Fr (· = g) w0 wr) ∧ Aside0 (ys = bsort (lt_i cf) 20 (xs.take a) ++ xs.drop a) ∧ Aside0 (∀ x ∈ ys, Pr x))
  case atStart => exact ⟨0, 0, 20, xs, rfl, rfl, rfl, rfl, by omega, by omega, HN0, HF0, ⟨by rw [List.take_zero, List.drop_zero, bsort_fin _ _ _ (by simp)]; rfl⟩, HPR0⟩
  case round =>
    obtain ⟨q, a, b, ys, rfl, rfl, haq, hba, han, hg1, HNi, HFi, HIi, HPRi⟩ := hrel
    have HAQ := Aside0.mk haq
    have hb1 : b ≤ a + 20 := by omega
    have hb2 : a + 20 ≤ b := by omega
    clear haq hba
    by_cases hlt : b ≤ n
    · have hltz : (b : Int) ≤ (n : Int) := by omega
      have hc := HINS.out a b ys HPRi.out _ HNi.out HFi.out (by omega) (by omega)
      have HCC := Aside0.mk hc
      clear hc
      go_wp2_with (go_at_call 66; refine HCC.out.mono ?_; rintro e w1 ⟨rfl, hn1, hf1⟩; have HN1 := Aside0.mk hn1; have HF1 := Aside0.mk hf1; clear hn1 hf1)
      go_roundg (n - b)
      case measure => omega
      case rel => exact ⟨q + 1, b, b + 20, _, rfl, by go_num, by have := HAQ.out; omega, rfl, by omega, by omega, HN1, HF1, ⟨by rw [HIi.out]; exact ph1_step (0 : Int) _ xs 20 q a b (by omega) HAQ.out (by omega) (by rw [HXS.out]; exact hlt)⟩, ⟨insO_all HZ.out a b ys HPRi.out⟩⟩
    · have hltz : ¬ (b : Int) ≤ (n : Int) := by omega
      have hc := HINS.out a n ys HPRi.out _ HNi.out HFi.out (by omega) (by omega)
      have HCC := Aside0.mk hc
      clear hc
      have HPRx := Aside0.mk (insO_all (lt := lt_i cf) HZ.out a n ys HPRi.out)
      have HE := Aside0.mk (show insO (0 : Int) (lt_i cf) a n ys = bsort (lt_i cf) 20 xs by rw [HIi.out]; have := ph1_end (0 : Int) (lt_i cf) xs 20 q a (by omega) HAQ.out (by rw [HXS.out]; exact han) (by rw [HXS.out]; omega); rwa [HXS.out] at this)
      obtain ⟨ys1, hys1⟩ : ∃ t, t = insO (0 : Int) (lt_i cf) a n ys := ⟨_, rfl⟩
      rw [← hys1] at HCC HE HPRx
      clear hys1 HIi HPRi
      go_wp2_with (go_at_call 66; refine HCC.out.mono ?_; rintro e w1 ⟨rfl, hn1, hf1⟩; have HN1 := Aside0.mk hn1; have HF1 := Aside0.mk hf1; clear hn1 hf1)
      clear HCC HNi HFi
      have HS0 := HN1
      go_loopg [6, 7, 8, 9] n (fun gg vs _ _ _ wr => ∃ (s : Nat) (ys : List Int), vs = .int .i64 (s : Int) ∧ 20 ≤ s ∧ s ≤ 2 * n + 20 ∧ n - s ≤ gg ∧ Aside0 (Kd.N (Kd.int .i64) 3 wr base ok (.slice (some ⟨g, 0, none⟩) n cap) ys) ∧ Aside0 (Fr (· = g) w0 wr) ∧ Aside0 (ys = bsort (lt_i cf) s xs) ∧ Aside0 (∀ x ∈ ys, Pr x))
      case atStart => exact ⟨20, ys1, rfl, by omega, by omega, by omega, HN1, HF1, HE, HPRx⟩
      case round =>
        clear HN1 HF1 HE HS0 HPRx
        obtain ⟨s, ys, rfl, hs1, hs2, hg2, HNi, HFi, HIi, HPRi⟩ := hrel
        by_cases hlt2 : s < n
        · have hltz2 : (s : Int) < (n : Int) := by omega
          have e2 : 2 * (s : Int) = ((2 * s : Nat) : Int) := by omega
          have e3 : (s : Int) * 2 = ((2 * s : Nat) : Int) := by omega
          obtain ⟨t, ht⟩ : ∃ t, t = 2 * s := ⟨_, rfl⟩
          rw [← ht] at e2 e3
          have ht1 : t ≤ 2 * s := by omega
          have ht2 : 2 * s ≤ t := by omega
          have HT := Aside0.mk ht
          clear ht
          go_wp2_with fail
          go_loopg [7, 8] n (fun gg va vb wr => ∃ (q a b : Nat) (ys : List Int), va = .int .i64 (a : Int) ∧ vb = .int .i64 (b : Int) ∧ a = 2 * s * q ∧ b = a + 2 * s ∧ a ≤ n ∧ n - a ≤ gg ∧ Aside0 (Kd.N (Kd.int .i64) 3 wr base ok (.slice (some ⟨g, 0, none⟩) n cap) ys) ∧ Aside0 (Fr (· = g) w0 wr) ∧ Aside0 (ys = bsort (lt_i cf) (2 * s) (xs.take a) ++ bsort (lt_i cf) s (xs.drop a)) ∧ Aside0 (∀ x ∈ ys, Pr x))
          case atStart => exact ⟨0, 0, t, ys, rfl, rfl, by omega, by omega, by omega, by omega, HNi, HFi, ⟨by rw [List.take_zero, List.drop_zero, bsort_fin _ (2 * s) _ (by simp), HIi.out]; rfl⟩, HPRi⟩
          case round =>
            clear HNi HFi HIi HPRi
            obtain ⟨q, a, b, ys, rfl, rfl, haq, hba, han, hg3, HNi, HFi, HIi, HPRi⟩ := hrel
            have HAQ := Aside0.mk haq
            have hb1 : b ≤ a + t := by omega
            have hb2 : a + t ≤ b := by omega
            have HBA := Aside0.mk hba
            obtain ⟨m, hm⟩ : ∃ m, m = a + s := ⟨_, rfl⟩
            have emz : (a : Int) + (s : Int) = (m : Int) := by omega
            have hm1 : m ≤ a + s := by omega
            have hm2 : a + s ≤ m := by omega
            have HM := Aside0.mk hm
            clear haq hba hm
            by_cases hlt3 : b ≤ n
            · have hltz3 : (b : Int) ≤ (n : Int) := by omega
              have hc := HSYM.out (b - a) a m b ys _ HPRi.out HNi.out HFi.out (by omega) (by omega) (by omega) (Nat.le_refl _)
              have HCC := Aside0.mk hc
              clear hc
              go_wp2_with (go_at_call 67; refine HCC.out.mono ?_; rintro e w1 ⟨rfl, hn1, hf1⟩; have HN1 := Aside0.mk hn1; have HF1 := Aside0.mk hf1; clear hn1 hf1)
              go_roundg (n - b)
              case measure => omega
              case rel => exact ⟨q + 1, b, b + t, _, rfl, by go_num, by have := HAQ.out; have := HBA.out; rw [Nat.mul_succ]; omega, by have := HT.out; omega, by omega, by omega, HN1, HF1, ⟨by rw [HIi.out]; exact ph2_step (0 : Int) HO.out xs s q a m b (b - a) (by omega) HAQ.out HM.out HBA.out (by rw [HXS.out]; exact hlt3) (Nat.le_refl _)⟩, ⟨symM_all HZ.out _ _ _ _ _ HPRi.out⟩⟩
            · have hltz3 : ¬ (b : Int) ≤ (n : Int) := by omega
              by_cases hmn : m < n
              · have hmz : (m : Int) < (n : Int) := by omega
                have hc := HSYM.out (n - a) a m n ys _ HPRi.out HNi.out HFi.out (by omega) (by omega) (by omega) (Nat.le_refl _)
                have HCC := Aside0.mk hc
                clear hc
                go_wp2_with (go_at_call 67; refine HCC.out.mono ?_; rintro e w1 ⟨rfl, hn1, hf1⟩; have HN1 := Aside0.mk hn1; have HF1 := Aside0.mk hf1; clear hn1 hf1)
                go_roundg (n - t)
                case measure => omega
                case rel => exact ⟨t, _, by go_num, by omega, by omega, by omega, HN1, HF1, ⟨by rw [HIi.out, HT.out]; have := ph2_end (0 : Int) HO.out xs s q a m (n - a) (by omega) HAQ.out HM.out (by rw [HXS.out]; exact hmn) (by rw [HXS.out]; have := HBA.out; omega) (by rw [HXS.out]; exact Nat.le_refl _); rwa [HXS.out] at this⟩, ⟨symM_all HZ.out _ _ _ _ _ HPRi.out⟩⟩
              · have hmz : ¬ (m : Int) < (n : Int) := by omega
                go_wp2_with fail
                go_roundg (n - t)
                case measure => omega
                case rel => exact ⟨t, ys, by go_num, by omega, by omega, by omega, HNi, HFi, ⟨by rw [HIi.out, HT.out]; exact ph2_skip _ xs s q a (by omega) HAQ.out (by rw [HXS.out]; exact han) (by rw [HXS.out]; omega)⟩, HPRi⟩
        · have hltz2 : ¬ (s : Int) < (n : Int) := by omega
          have HI3 := Aside0.mk (show ys = isort (lt_i cf) xs by rw [HIi.out]; exact bsort_fin _ _ _ (by rw [HXS.out]; omega))
          go_wp2_with fail
          go_end0
          exact ⟨rfl, by rw [← HI3.out]; exact HNi.out, HFi.out⟩

set_option maxHeartbeats 1000000 in
set_option maxRecDepth 100000 in
theorem sortst_i (g n cap : Nat) (Pr : Int → Prop) (hz0 : Pr 0) (K : Nat) (lb : Array Value) (cf : Int → Int → Int) (base : Nat) (ok : Nat → Prop) (w0 : World) (hn : n ≤ 1000000)
    (eg : ∀ args w, (callFunc K args).run Try.prog w = .ok (.enter K args) w)
    (hcmp : ∀ (x y : Int) W, Pr x → Pr y → Fr (· = g) w0 W → Calls Try.prog K (#[.int .i64 x, .int .i64 y] ++ lb) W fun e w' => e = .returned (.int .i64 (cf x y)) ∧ Below W.heap.size W w') (hso : SO (lt_i cf)) (xs : List Int) (hpr : ∀ x ∈ xs, Pr x) (w : World) (hN : Kd.N (Kd.int .i64) 3 w base ok (.slice (some ⟨g, 0, none⟩) n cap) xs) (hF : Fr (· = g) w0 w) (hxs : xs.length = n) :
    Calls Try.prog 47 #[.slice (some ⟨g, 0, none⟩) n cap, .func (.func K) #[] lb] w fun e w' => e = .returned (.tuple #[]) ∧ Kd.N (Kd.int .i64) 3 w' base ok (.slice (some ⟨g, 0, none⟩) n cap) (isort (lt_i cf) xs) ∧ Fr (· = g) w0 w' := by
  have HH := Aside0.mk (stable_i g n cap Pr hz0 K lb cf base ok w0 hn eg hcmp hso xs hpr w hN hF hxs)
  clear hN hF hcmp hso hxs hpr hz0
  go_enter Try.func47, Try.ntmps47
  go_wp2_with fail
  refine HH.out.mono ?_
  rintro e w1 ⟨rfl, hr⟩
  have HR := Aside0.mk hr
  clear hr
  go_wp2_with fail
  go_end0
  exact ⟨rfl, HR.out⟩
end

end Go.Proofs.Ytoblkjdiahoplaa.G
