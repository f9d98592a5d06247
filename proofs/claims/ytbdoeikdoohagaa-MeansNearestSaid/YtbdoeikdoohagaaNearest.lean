/- quiverlaw12.MeansNearest answers true, for every two rows of vectors. -/
import Derived.Test.YtbdoeikdoohagaaLw
namespace Go.Proofs.Ytbdoeikdoohagaa.G
open Go.Shelf Go.RowKit Go.Proofs.YtbdoeikdoohagaaW.PrintWords Go.Proofs.YtbdoeikdoohagaaW.PrintLast Go.Proofs.YtbdoeikdoohagaaW.PrintMore
set_option linter.unusedVariables false
set_option linter.unusedSimpArgs false

theorem two_dists {d : Nat} {c l : List (List Int)} (hc : okV d c) (hl : okV d l) (i j : Nat) (hi : i < l.length) (hj : j < c.length) : vec_Dist.f (c.getD j []) (l.getD i []) = some (distV (c.getD j []) (l.getD i []), 0) := by
  have h1 := hc (c.getD j []) (by rw [getD_of_lt c j [] hj]; exact List.getElem_mem hj)
  have h2 := hl (l.getD i []) (by rw [getD_of_lt l i [] hi]; exact List.getElem_mem hi)
  exact dist_ok _ _ h1.1 h2.1 (h1.2.trans h2.2.symm)

set_option maxHeartbeats 4000000 in
set_option maxRecDepth 100000 in
theorem meansNearest.go (A : Option Addr) (c : Nat) (x : List (List Int)) (B : Option Addr) (d : Nat) (l : List (List Int)) (w : World) (hr : Kd.C kR w A x.length x) (hc : x.length ≤ c) (hr' : Kd.C kR w B l.length l) (hc' : l.length ≤ d) :
    Calls Try.prog 17 #[.slice A x.length c, .slice B l.length d] w fun e w' => e = .returned (.bool true) ∧ Below w.heap.size w w' := by
  have HR := Aside0.mk hr
  have HC := Aside0.mk hc
  have HR' := Aside0.mk hr'
  have HC' := Aside0.mk hc'
  have hml := Kd.C_max hr
  have hml' := Kd.C_max hr'
  clear hr hc hr' hc'
  go_enter Try.func17, Try.ntmps17
  go_wp2_with fail
  refine (wakes12.calls true _ rfl).mono ?_
  rintro e w1 ⟨rfl, hb1⟩
  have HB1 := Aside0.mk hb1
  clear hb1
  go_wp2_with fail
  refine (few_go A c x 6 6 rfl (by decide) w1 (Kd.C_below HR.out HB1.out) HC.out).mono ?_
  rintro e w2 ⟨A2, c2, rfl, hl2, hC2, hb2⟩
  have hK6 := few_len 6 x
  generalize fewV 6 x = K at *
  have HB2 := Aside0.mk (below_step HB1.out hb2)
  have HK2 := Aside0.mk hC2
  have HL2 := Aside0.mk hl2
  clear hb2 hC2 hl2
  go_wp2_with fail
  refine (few_go B d l 96 96 rfl (by decide) w2 (Kd.C_below HR'.out HB2.out) HC'.out).mono ?_
  rintro e w3 ⟨A3, c3, rfl, hl3, hC3, hb3⟩
  have hI96 := few_len 96 l
  generalize fewV 96 l = I at *
  have HB3 := Aside0.mk (below_step HB2.out hb3)
  have HK3 := Aside0.mk (Kd.C_below HK2.out hb3)
  have HI3 := Aside0.mk hC3
  have HL3 := Aside0.mk hl3
  clear hb3 hC3 hl3
  go_wp2_with fail
  refine (parts_go A2 c2 K A3 c3 I w3 HK3.out HL2.out HI3.out HL3.out).mono ?_
  rintro e w4 ⟨A4, c4, rfl, hl4, hC4, hb4⟩
  have HB4 := Aside0.mk (below_step HB3.out hb4)
  have HK4 := Aside0.mk (Kd.C_below HK3.out hb4)
  have HI4 := Aside0.mk (Kd.C_below HI3.out hb4)
  have HNE := Aside0.mk (fun h => partsR_ne (c := K) (l := I) h)
  have HOK := Aside0.mk (fun h => parts_ok (c := K) (l := I) h)
  generalize partsR K I = tt at *
  obtain ⟨t, te⟩ := tt
  simp only at *
  have hmt := Kd.C_max hC4
  have HP4 := Aside0.mk hC4
  clear hb4 hC4 hl4
  by_cases hz : te = 0
  case neg =>
    obtain rfl : t = [] := HNE.out hz
    have e1 : (te != 0) = true := by rw [bne_iff_ne]; exact hz
    clear hz
    go_wp2_with fail
    go_returns
    exact ⟨rfl, HB4.out⟩
  subst hz
  obtain ⟨⟨hk1, hk2⟩, ⟨hi1, hi2⟩, hae, hpe⟩ := HOK.out rfl
  obtain rfl : t = partsV K I := (Prod.mk.inj hpe).1
  have hok := ok_append.1 (ok_of_err hae)
  have HDS := Aside0.mk (fun i j hi hj => two_dists hok.1 hok.2 i j hi hj)
  have HOW := Aside0.mk (fun v => own1_spec K v hk1)
  have HPA := Aside0.mk (fun k hk => parts_at K I k hk)
  have HPL := Aside0.mk (parts_len K I)
  rw [parts_len] at *
  have e9 : ((I.length : Int) == (I.length : Int)) = true := by rw [beq_iff_eq]
  clear hae hpe hok HNE HOK
  have HBr := Aside0.mk (Below.refl w4.heap.size w4)
  go_wp2_with fail
  go_loopg [35] I.length (fun gg s35 wr => ∃ i : Nat, i ≤ I.length ∧ I.length - i ≤ gg ∧ s35 = .int .i64 i ∧ Aside0 (Below w4.heap.size w4 wr))
  case atStart => exact ⟨0, Nat.zero_le _, by omega, rfl, HBr⟩
  case round =>
    obtain ⟨i, hi, hgi, rfl, HBi⟩ := hrel
    by_cases hit : i < I.length
    · have hiz : (i : Int) < (I.length : Int) := by omega
      obtain ⟨ad3, Av, cv, rfl, hcv, hlv, hCv⟩ := C_row HI4.out i hit
      replace hcv := (HBi.out.cell (World.block_lt_of_cell? w4 _ hcv)).trans hcv
      obtain ⟨ad4, rfl, hcp⟩ := C_byte' (by rw [parts_len]; exact HP4.out) i (by rw [parts_len]; exact hit)
      replace hcp := (HBi.out.cell (World.block_lt_of_cell? w4 _ hcp)).trans hcp
      rw [HPA.out i hit] at hcp
      obtain ⟨j, hj1, hj2, hj3⟩ := HOW.out (I.getD i [])
      rw [hj1] at hcp
      obtain ⟨ad2, Aj, cj, rfl, hcj, hlj, hCj⟩ := C_row HK4.out j hj2
      replace hcj := (HBi.out.cell (World.block_lt_of_cell? w4 _ hcj)).trans hcj
      have HJ3 := Aside0.mk hj3
      have hjz : (j : Int) < (K.length : Int) := by omega
      have hj0 : (0 : Int) ≤ (j : Int) := by omega
      have HVD := Aside0.mk (vec_Dist.calls Aj cj (K.getD j []) Av cv (I.getD i []) _ 0 wr (Kd.C_below hCj HBi.out) hlj (Kd.C_below hCv HBi.out) hlv (HDS.out i j hit hj2))
      have HCv := Aside0.mk hCv
      have HLv := Aside0.mk hlv
      have hmv := Kd.C_max hCv
      have HCPX := Aside0.mk hcp
      have HDI := Aside0.mk (fun q hq => HDS.out i q hit hq)
      clear hCv hlv hCj hlj hj3 hj1
      generalize I.getD i [] = v at *
      generalize (K.getD j []).length = nj at *
      obtain ⟨own, hown⟩ : ∃ own, own = distV (K.getD j []) v := ⟨_, rfl⟩
      rw [← hown] at HVD HJ3
      clear hown
      obtain ⟨wo, rfl⟩ : ∃ wo, wo = wr := ⟨_, rfl⟩
      go_wp2_with fail
      refine HVD.out.mono ?_
      rintro e w5 ⟨rfl, hb5⟩
      have HB5 := Aside0.mk (below_step HBi.out hb5)
      have HPC := Aside0.mk (show ∀ W, Below wo.heap.size wo W → W.cell? (ad4.add i) = some (.int .i64 j) from fun W h => (h.cell (World.block_lt_of_cell? wo _ HCPX.out)).trans HCPX.out)
      have HBo := Aside0.mk (Below.refl wo.heap.size wo |>.trans hb5)
      clear hb5 hcp hcv hcj HVD
      go_wp2_with fail
      go_loopg [56] K.length (fun gg s56 wr => ∃ k : Nat, k ≤ K.length ∧ K.length - k ≤ gg ∧ s56 = .int .i64 k ∧ Aside0 (Below wo.heap.size wo wr))
      case atStart => exact ⟨0, Nat.zero_le _, by omega, rfl, HBo⟩
      case round =>
        obtain ⟨k, hk, hgk, rfl, HBk⟩ := hrel
        have HBk4 := Aside0.mk (below_step HBi.out HBk.out)
        by_cases hkt : k < K.length
        · have hkz : (k : Int) < (K.length : Int) := by omega
          obtain ⟨ad2', Ak, ck, hA, hck, hlk, hCk⟩ := C_row HK4.out k hkt
          injection hA with hA
          subst hA
          replace hck := (HBk4.out.cell (World.block_lt_of_cell? w4 _ hck)).trans hck
          have HVD := Aside0.mk (vec_Dist.calls Ak ck (K.getD k []) Av cv v _ 0 wr (Kd.C_below hCk HBk4.out) hlk (Kd.C_below HCv.out HBk4.out) HLv.out (HDI.out k hkt))
          obtain ⟨g1, g2⟩ := HJ3.out k hkt
          obtain ⟨dd, hdd⟩ : ∃ dd, dd = distV (K.getD k []) v := ⟨_, rfl⟩
          rw [← hdd] at HVD g1 g2
          clear hdd hCk hlk
          generalize (K.getD k []).length = nk at *
          go_wp2_with fail
          refine HVD.out.mono ?_
          rintro e w7 ⟨rfl, hb7⟩
          have HB7 := Aside0.mk (below_step HBk.out hb7)
          have hcp := HPC.out w7 HB7.out
          clear hb7 HVD hck
          have e1 : decide (dd < own) = false := decide_eq_false (by omega)
          by_cases he : dd = own
          · have e2 : (dd == own) = true := by rw [beq_iff_eq]; exact he
            have e3 : decide ((k : Int) < (j : Int)) = false := decide_eq_false (by have := g2 he; omega)
            have e4 : decide (k < j) = false := decide_eq_false (by have := g2 he; omega)
            clear he g1 g2
            go_wp2_with fail
            go_roundg (K.length - (k + 1))
            case measure => omega
            case rel => exact ⟨k + 1, hkt, by omega, by go_num, HB7⟩
          · have e2 : (dd == own) = false := by rw [beq_eq_false_iff_ne]; exact he
            clear he g1 g2
            go_wp2_with fail
            go_roundg (K.length - (k + 1))
            case measure => omega
            case rel => exact ⟨k + 1, hkt, by omega, by go_num, HB7⟩
        · obtain rfl : k = K.length := by omega
          go_wp2_with fail
          go_roundg (I.length - (i + 1))
          case measure => omega
          case rel => exact ⟨i + 1, hit, by omega, by go_num, HBk4⟩
    · obtain rfl : i = I.length := by omega
      have HBe := Aside0.mk (below_step HB4.out HBi.out)
      go_wp2_with fail
      go_returns
      exact ⟨rfl, HBe.out⟩

theorem meansNearest.walk (A : Option Addr) (c : Nat) (x : List (List Int)) (B : Option Addr) (d : Nat) (l : List (List Int)) (W : World) (hl : x.length ≤ c) (hC : Kd.C (Kd.slice 21 (Kd.int .i32)) W A x.length x) (wl : ∀ y ∈ x, ∀ z ∈ y, (Lit.int .i32 z).wf = true) (hd : l.length ≤ d) (hD : Kd.C (Kd.slice 21 (Kd.int .i32)) W B l.length l) (wd : ∀ y ∈ l, ∀ z ∈ y, (Lit.int .i32 z).wf = true) :
    Calls Try.prog 17 #[.slice A x.length c, .slice B l.length d] W fun e W' => e = .returned (.bool true) ∧ Below W.heap.size W W' :=
  meansNearest.go A c x B d l W hC hl hD hd

end Go.Proofs.Ytbdoeikdoohagaa.G
