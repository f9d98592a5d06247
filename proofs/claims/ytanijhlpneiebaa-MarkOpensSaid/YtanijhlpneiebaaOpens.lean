/- quiverlaw03.MarkOpens answers true, for every bytes. -/
import Derived.Test.YtanijhlpneiebaaOpn
namespace Go.Proofs.Ytanijhlpneiebaa.G
open Go.RowKit Go.Proofs.YtanijhlpneiebaaW.PrintWords Go.Proofs.YtanijhlpneiebaaW.PrintLast Go.Proofs.YtanijhlpneiebaaW.PrintMore
set_option linter.unusedVariables false
set_option linter.unusedSimpArgs false

theorem idx0 (A B : Option Addr) (n c m d : Nat) (w : World) : (Instr.index 64 (.agg #[.slice A n c, .slice B m d]) (.int .i64 0)).run Try.prog w = .ok (.slice A n c) w := by kernel_rfl
theorem idx1 (A B : Option Addr) (n c m d : Nat) (w : World) : (Instr.index 64 (.agg #[.slice A n c, .slice B m d]) (.int .i64 1)).run Try.prog w = .ok (.slice B m d) w := by kernel_rfl

theorem bdO {g : Nat} {w w1 w2 : World} (h : Below g w w1) (hd : Drawn0 w1 w2) : Below g w w2 := by
  obtain ⟨⟨nd, rfl⟩⟩ := hd
  exact pw_below_drewN h nd
/-- A row of bytes of one's own: an element can be read, and written. -/
theorem R_turn {w : World} {base : Nat} {ok : Nat → Prop} {A : Option Addr} {n c : Nat} {ys : List Int} (h : Kd.R (Kd.int .u8) 5 w base ok (.slice A n c) ys) (hn : ys.length = n) (j : Nat) (hj : j < n) :
    ∃ g, A = some ⟨g, 0, none⟩ ∧ ok g ∧ base ≤ g ∧ w.cell? ⟨g, j, none⟩ = some (.int .u8 (ys.getD j 0)) ∧ w.frozen? ⟨g, j, none⟩ = false ∧ ∀ u, Kd.R (Kd.int .u8) 5 (w.setCell ⟨g, j, none⟩ (.int .u8 u)) base ok (.slice A n c) (ys.set j u) := by
  obtain ⟨g, cap, e, hg, hgl, _⟩ := Kd.R_form h (by omega)
  injection e with e1 e2 e3
  subst e1 e3
  obtain ⟨cs, hcl, hM, hcell, hfr⟩ := Kd.R_elem h 0 (j : Int) (by omega) (by omega)
  rw [Int.toNat_natCast] at hM hcell hfr
  have hcs : cs = [.int .u8 (ys.getD j 0)] := hM
  subst hcs
  have h1 := hcell 0 _ rfl
  have h2 := hfr 0
  rw [show (Kd.int .u8).sz = 1 from rfl, Nat.mul_one, Nat.add_zero] at h1 h2
  refine ⟨g, rfl, h.1 g (by simp [Value.ownBlock]), hg, h1, h2, fun u => ?_⟩
  have := (Kd.R_seg (d := Kd.int .u8) (seg := [.int .u8 u]) (j := 0) (okp := fun _ => False) (x' := u) h (j : Int) (by omega) (by omega) hcl (by rw [Int.toNat_natCast]; exact hcell) (show 0 + 1 ≤ 1 by decide) rfl (fun k hk => hk.elim)).1
  rw [Int.toNat_natCast, show (Kd.int .u8).sz = 1 from rfl, Nat.mul_one, Nat.add_zero] at this
  exact this
theorem R_away {w : World} {base : Nat} {ok : Nat → Prop} {v : Value} {ys : List Int} (h : Kd.R (Kd.int .u8) 5 w base ok v ys) (g j : Nat) (u : Value) (hne : ¬ ok g) : Kd.R (Kd.int .u8) 5 (w.setCell ⟨g, j, none⟩ u) base ok v ys :=
  Kd.R_step h (fun k hk _ => Below.heap_setCell w ⟨g, j, none⟩ u k (fun e => hne (by have e2 : k = g := e; subst e2; exact hk)))

set_option maxHeartbeats 4000000 in
set_option maxRecDepth 100000 in
theorem markOpens.go (A : Option Addr) (c : Nat) (l : List Int) (w : World) (hr : Kd.C (Kd.int .u8) w A l.length l) (hc : l.length ≤ c) (hb : ∀ x ∈ l, 0 ≤ x ∧ x ≤ 255) :
    Calls Try.prog 10 #[.slice A l.length c] w fun e w' => e = .returned (.bool true) ∧ Below w.heap.size w w' := by
  have HR := Aside0.mk hr
  have HC := Aside0.mk hc
  have hml := Kd.C_max hr
  clear hr hc
  by_cases hbig : 20000 < l.length
  · have hbz : (20000 : Int) < (l.length : Int) := by omega
    clear hb
    go_enter Try.func10, Try.ntmps10
    go_wp2_with fail
    refine (wakes03.calls true _ rfl).mono ?_
    rintro e w1 ⟨rfl, hb1⟩
    have HB1 := Aside0.mk hb1
    clear hb1
    go_wp2_with fail
    go_returns
    exact ⟨rfl, HB1.out⟩
  have hbz : (l.length : Int) ≤ 20000 := by omega
  have HBY := Aside0.mk hb
  have HSEAL := Aside0.mk (seal_is l 40000 (by omega) (by omega) hb)
  have HRSEAL := Aside0.mk (refseal_is l 40000 (by omega) (by omega) hb)
  have hpl : (l ++ putBytes 8 (ofB l)).length = l.length + 8 := by rw [List.length_append, putBytes_length]; rfl
  obtain ⟨sv, hsv⟩ : ∃ sv, sv = l ++ putBytes 8 (ofB l) := ⟨_, rfl⟩
  rw [← hsv] at HSEAL HRSEAL hpl
  have HPL := Aside0.mk hpl
  obtain ⟨x1, hx1⟩ : ∃ x, x = (openB l).1 := ⟨_, rfl⟩
  obtain ⟨x2, hx2⟩ : ∃ x, x = (openB l).2 := ⟨_, rfl⟩
  have HOP := Aside0.mk (show mark_Open.f l = some (x1, x2) by unfold mark_Open.f; rw [if_pos ⟨(bytesOk_iff l).2 hb, by omega⟩, hx1, hx2])
  have HX1 := Aside0.mk hx1
  have HX2 := Aside0.mk hx2
  have hxl : x1.length ≤ 20000 := by
    rw [hx1]
    unfold openB
    split
    · simp
    · split
      · simp; omega
      · simp
  have HSS := Aside0.mk (ref_same_self sv (by omega))
  have HSX := Aside0.mk (ref_same_self x1 (by omega))
  have HSO := Aside0.mk (ref_same_self l (by omega))
  clear hb hsv hx1 hx2 hbig hpl
  go_enter Try.func10, Try.ntmps10
  go_wp2_with fail
  refine (wakes03.calls true _ rfl).mono ?_
  rintro e w1 ⟨rfl, hb1⟩
  have HB1 := Aside0.mk hb1
  clear hb1
  go_wp2_with (first
    | ((with_reducible refine gate_dst (N := 17) rfl ?_); refine Kd.R_lit (Kd.int .u8) (w0 := w) w.heap.size 5 ?hg (N := 17) ?hd (xs := ([] : List Int)) (inner := []) (ok := fun _ => True) (okp := fun _ => True) ?hr ?hp (fun _ hk => hk) trivial HB1.out (below_size HB1.out) (by simp) ?_; (case hd => rfl); (case hg => rfl); (case hr => first | (go_simp; done) | (go_simp; rfl)); (case hp => exact (Reps.none _ _)); intro v17 w1a ho10 hb hg_ hnew_; clear hg_ hnew_; have HO := Aside0.mk ho10; have HB1a := Aside0.mk hb; clear ho10 hb)
    | ((with_reducible refine gate_builtin (b := .append) (xs := #[.tmp 17, .tmp 18]) rfl ?_); at_builtin; refine Kd.R_append_rows (Kd.int .u8) (w0 := w) w.heap.size rfl (.tmp 17) (.tmp 18) 22 5 (.int .u8 0) 1 rfl Try.underlying22 info_u8 rfl (by decide) (by omega) v17 [] l A l.length c (fun _ => True) (fun _ => False) rfl rfl HO.out (Kd.C_below HR.out HB1a.out) (fun _ _ h => h) (fun _ h => h.elim) (fun _ _ => trivial) HB1a.out (below_size HB1a.out) (by simp; omega) ?_; intro v19 w2 ho hb hg hat; clear hg hat; obtain ⟨A2, c2, e2, hl2, hC2⟩ := Kd.R_reads ho; subst e2; have HC2 := Aside0.mk (show Kd.C (Kd.int .u8) w2 A2 l.length l from hC2); have HL2 := Aside0.mk (show l.length ≤ c2 from hl2); have HB2 := Aside0.mk hb; clear ho hb hC2 hl2))
  refine (P.mark_Seal.calls 40000 A c l sv w2 (Kd.C_below HR.out HB2.out) HC.out HSEAL.out).mono ?_
  rintro e w3 ⟨v3, rfl, ho3, hb3⟩
  obtain ⟨A3, c3, rfl⟩ := Kd.R_slice ho3
  have HB3 := Aside0.mk hb3
  have HS3 := Aside0.mk (Kd.R_mono (Kd.R_bound ho3) (fun k hk => hk.2.2.1) : Kd.R (Kd.int .u8) 5 w3 w2.heap.size (fun k => k < w3.heap.size) _ sv)
  clear ho3 hb3
  go_wp2_with fail
  refine (mark_Open.calls A c l x1 x2 w3 (Kd.C_below HR.out (below_step HB2.out HB3.out)) HC.out HOP.out).mono ?_
  rintro e w4 ⟨v4, rfl, ho4, hb4⟩
  obtain ⟨A4, c4, rfl⟩ := Kd.R_slice ho4
  have HB4 := Aside0.mk (below_step HB3.out hb4)
  have HS4 := Aside0.mk (Kd.R_below HS3.out hb4)
  have HX4 := Aside0.mk (Kd.R_mono (Kd.R_bound ho4) (fun k hk => hk.2.1) : Kd.R (Kd.int .u8) 5 w4 w3.heap.size (fun k => w3.heap.size ≤ k) _ x1)
  clear ho4 hb4
  go_wp2_with fail
  have hRO := refOpen.calls A2 c2 l w4 (Kd.C_below HC2.out HB4.out) HL2.out (by omega) HBY.out
  rw [← HX1.out, ← HX2.out] at hRO
  refine hRO.mono ?_
  clear hRO
  rintro e w5 ⟨v5, rfl, ho5, hb5⟩
  obtain ⟨A5, c5, rfl, hl5, hC5⟩ := Kd.R_reads ho5
  have HB5 := Aside0.mk (below_step HB4.out hb5)
  have HS5 := Aside0.mk (Kd.R_below HS4.out hb5)
  have HX5 := Aside0.mk (Kd.R_below HX4.out hb5)
  have HC5 := Aside0.mk hC5
  have HL5 := Aside0.mk hl5
  clear ho5 hb5 hC5 hl5
  go_wp2_with fail
  refine (P.quiverref03_Seal.calls 40000 A2 c2 l sv w5 (Kd.C_below HC2.out HB5.out) HL2.out HRSEAL.out).mono ?_
  rintro e w6 ⟨v6, rfl, ho6, hb6⟩
  obtain ⟨A6, c6, rfl, hl6, hC6⟩ := Kd.R_reads ho6
  have HB6 := Aside0.mk (below_step HB5.out hb6)
  have HS6 := Aside0.mk (Kd.R_below HS5.out hb6)
  have HX6 := Aside0.mk (Kd.R_below HX5.out hb6)
  have HC56 := Aside0.mk (Kd.C_below HC5.out hb6)
  have HC6 := Aside0.mk hC6
  have HL6 := Aside0.mk hl6
  clear ho6 hb6 hC6 hl6
  obtain ⟨_, hns, hCs⟩ := Kd.R_reads' HS6.out
  have HCs := Aside0.mk hCs
  have HLs := Aside0.mk hns
  clear hCs hns
  go_wp2_with fail
  refine (P.quiverref01_Same.calls (sv.length + 1) A3 c3 sv A6 c6 sv true w6 HCs.out HLs.out HC6.out HL6.out HSS.out).mono ?_
  rintro e w7 ⟨rfl, hd7⟩
  have HB7 := Aside0.mk (bdO HB6.out hd7)
  have HS7 := Aside0.mk (Kd.R_below HS6.out (bdO (Below.refl _ _) hd7))
  have HX7 := Aside0.mk (Kd.R_below HX6.out (bdO (Below.refl _ _) hd7))
  have HC57 := Aside0.mk (Kd.C_below HC56.out (bdO (Below.refl _ _) hd7))
  clear hd7
  obtain ⟨_, hnx, hCx⟩ := Kd.R_reads' HX7.out
  have HCx := Aside0.mk hCx
  have HLx := Aside0.mk hnx
  clear hCx hnx
  have ebx : (x2 != x2) = false := by simp
  go_wp2_with fail
  refine (P.quiverref01_Same.calls (x1.length + 1) A4 c4 x1 A5 c5 x1 true w7 HCx.out HLx.out HC57.out HL5.out HSX.out).mono ?_
  rintro e w8 ⟨rfl, hd8⟩
  have HB8 := Aside0.mk (bdO HB7.out hd8)
  have HS8 := Aside0.mk (Kd.R_below HS7.out (bdO (Below.refl _ _) hd8))
  have HX8 := Aside0.mk (Kd.R_below HX7.out (bdO (Below.refl _ _) hd8))
  clear hd8
  obtain ⟨ns, hns⟩ : ∃ ns, ns = sv.length := ⟨_, rfl⟩
  obtain ⟨nx, hnx⟩ : ∃ nx, nx = x1.length := ⟨_, rfl⟩
  have hns2 : ns ≤ 20008 := by have := HPL.out; omega
  have hnx2 : nx ≤ 20000 := by omega
  rw [← hns] at HS8
  rw [← hnx] at HX8
  have HN1 := Aside0.mk hns
  have HN2 := Aside0.mk hnx
  rw [← hns, ← hnx]
  clear hns hnx
  go_wp2_with fail
  go_loopg [51] 2 (fun gg s51 wr => ∃ (i : Nat) (ys zs : List Int), i ≤ 2 ∧ 2 - i ≤ gg ∧ s51 = .int .i64 i ∧ ys.length = ns ∧ zs.length = nx ∧ Aside0 (Kd.R (Kd.int .u8) 5 wr w2.heap.size (fun k => k < w3.heap.size) (.slice A3 ns c3) ys) ∧ Aside0 (Kd.R (Kd.int .u8) 5 wr w3.heap.size (fun k => w3.heap.size ≤ k) (.slice A4 nx c4) zs) ∧ Aside0 (Below w2.heap.size w2 wr))
  case atStart => exact ⟨0, sv, x1, Nat.zero_le _, by omega, rfl, HN1.out.symm, HN2.out.symm, HS8, HX8, HB8⟩
  case round =>
    obtain ⟨i, ys, zs, hi, hgi, rfl, hyl, hzl, HS, HX, HB⟩ := hrel
    by_cases h2 : i = 2
    · subst h2
      have HBE := Aside0.mk (below_step HB2.out HB.out)
      have HCO := Aside0.mk (Kd.C_below HR.out HBE.out)
      have HCW := Aside0.mk (Kd.C_below HC2.out HB.out)
      go_wp2_with fail
      refine (P.quiverref01_Same.calls (l.length + 1) A c l A2 c2 l true wr HCO.out HC.out HCW.out HL2.out HSO.out).mono ?_
      rintro e w9 ⟨rfl, hd9⟩
      have HB9 := Aside0.mk (bdO HBE.out hd9)
      clear hd9
      go_wp2_with fail
      go_returns
      exact ⟨rfl, HB9.out⟩
    have HYL := Aside0.mk hyl
    have HZL := Aside0.mk hzl
    clear hyl hzl
    by_cases h1 : i = 0
    · subst h1
      obtain ⟨wo, rfl⟩ : ∃ wo, wo = wr := ⟨_, rfl⟩
      have q0 := idx0 A3 A4 ns c3 nx c4
      go_wp2_with fail
      go_loopg [56] ns (fun gg s56 wr => ∃ (j : Nat) (ys zs : List Int), j ≤ ns ∧ ns - j ≤ gg ∧ s56 = .int .i64 j ∧ Aside0 (ys.length = ns) ∧ Aside0 (zs.length = nx) ∧ Aside0 (Kd.R (Kd.int .u8) 5 wr w2.heap.size (fun k => k < w3.heap.size) (.slice A3 ns c3) ys) ∧ Aside0 (Kd.R (Kd.int .u8) 5 wr w3.heap.size (fun k => w3.heap.size ≤ k) (.slice A4 nx c4) zs) ∧ Aside0 (Below w2.heap.size w2 wr))
      case atStart => exact ⟨0, ys, zs, Nat.zero_le _, by omega, rfl, HYL, HZL, HS, HX, HB⟩
      case round =>
        obtain ⟨j, yy, zz, hj, hgj, rfl, hy2, hz2, HSj, HXj, HBj⟩ := hrel
        by_cases hjt : j < ns
        · have hjz : (j : Int) < (ns : Int) := by omega
          obtain ⟨g, rfl, hok, hbg, q1, f1, hset⟩ := R_turn HSj.out hy2.out j hjt
          have HSET := Aside0.mk hset
          have HOK := Aside0.mk hok
          have HBG := Aside0.mk hbg
          clear hset hok hbg
          generalize yy.getD j 0 = x at *
          go_wp2_with fail
          have HB2' := Aside0.mk (HBj.out.setCell (p := ⟨g, j, none⟩) (HBG.out) (.int .u8 (IntKind.u8.wrap (x + 1))))
          have HM2 := Aside0.mk (HSET.out (IntKind.u8.wrap (x + 1)))
          have HA2 := Aside0.mk (R_away HXj.out g j (.int .u8 (IntKind.u8.wrap (x + 1))) (by have := HOK.out; omega))
          go_roundg (ns - (j + 1))
          case measure => omega
          case rel => exact ⟨j + 1, yy.set j (IntKind.u8.wrap (x + 1)), zz, hjt, by omega, by go_num, ⟨by rw [List.length_set]; exact hy2.out⟩, hz2, HM2, HA2, HB2'⟩
        · obtain rfl : j = ns := by omega
          go_wp2_with fail
          go_roundg (2 - (0 + 1))
          case measure => omega
          case rel => exact ⟨0 + 1, yy, zz, by omega, by omega, by go_num, hy2.out, hz2.out, HSj, HXj, HBj⟩
    · obtain rfl : i = 1 := by omega
      obtain ⟨wo, rfl⟩ : ∃ wo, wo = wr := ⟨_, rfl⟩
      have q0 := idx1 A3 A4 ns c3 nx c4
      go_wp2_with fail
      go_loopg [56] nx (fun gg s56 wr => ∃ (j : Nat) (ys zs : List Int), j ≤ nx ∧ nx - j ≤ gg ∧ s56 = .int .i64 j ∧ Aside0 (ys.length = ns) ∧ Aside0 (zs.length = nx) ∧ Aside0 (Kd.R (Kd.int .u8) 5 wr w2.heap.size (fun k => k < w3.heap.size) (.slice A3 ns c3) ys) ∧ Aside0 (Kd.R (Kd.int .u8) 5 wr w3.heap.size (fun k => w3.heap.size ≤ k) (.slice A4 nx c4) zs) ∧ Aside0 (Below w2.heap.size w2 wr))
      case atStart => exact ⟨0, ys, zs, Nat.zero_le _, by omega, rfl, HYL, HZL, HS, HX, HB⟩
      case round =>
        obtain ⟨j, yy, zz, hj, hgj, rfl, hy2, hz2, HSj, HXj, HBj⟩ := hrel
        by_cases hjt : j < nx
        · have hjz : (j : Int) < (nx : Int) := by omega
          obtain ⟨g, rfl, hok, hbg, q1, f1, hset⟩ := R_turn HXj.out hz2.out j hjt
          have HSET := Aside0.mk hset
          have HOK := Aside0.mk hok
          have HBG := Aside0.mk hbg
          clear hset hok hbg
          generalize zz.getD j 0 = x at *
          go_wp2_with fail
          have HB2' := Aside0.mk (HBj.out.setCell (p := ⟨g, j, none⟩) (Nat.le_trans HB3.out.size HBG.out) (.int .u8 (IntKind.u8.wrap (x + 1))))
          have HM2 := Aside0.mk (HSET.out (IntKind.u8.wrap (x + 1)))
          have HA2 := Aside0.mk (R_away HSj.out g j (.int .u8 (IntKind.u8.wrap (x + 1))) (by have := HOK.out; omega))
          go_roundg (nx - (j + 1))
          case measure => omega
          case rel => exact ⟨j + 1, yy, zz.set j (IntKind.u8.wrap (x + 1)), hjt, by omega, by go_num, hy2, ⟨by rw [List.length_set]; exact hz2.out⟩, HA2, HM2, HB2'⟩
        · obtain rfl : j = nx := by omega
          go_wp2_with fail
          go_roundg (2 - (1 + 1))
          case measure => omega
          case rel => exact ⟨1 + 1, yy, zz, by omega, by omega, by go_num, hy2.out, hz2.out, HSj, HXj, HBj⟩

theorem markOpens.walk (A : Option Addr) (c : Nat) (l : List Int) (W : World) (hl : l.length ≤ c) (hC : Kd.C (Kd.int .u8) W A l.length l) (wl : ∀ x ∈ l, (Lit.int .u8 x).wf = true) :
    Calls Try.prog 10 #[.slice A l.length c] W fun e W' => e = .returned (.bool true) ∧ Below W.heap.size W W' :=
  markOpens.go A c l W hC hl (fun x hx => by simpa [Lit.wf, IntKind.min, IntKind.max, IntKind.signed, IntKind.bits] using wl x hx)

end Go.Proofs.Ytanijhlpneiebaa.G
