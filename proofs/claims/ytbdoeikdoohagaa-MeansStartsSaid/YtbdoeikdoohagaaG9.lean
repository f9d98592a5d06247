/- Contracts of means.Parts, and of the iterator means.part. Contract of means.Assign. -/
import Derived.RangeFuncNested
import Derived.RangeFuncBound
import Derived.RangeFuncCalls
import Derived.RangeFuncLeaves
import Derived.RangeFuncBox
import Derived.Shelf.Abstract
import Derived.Shelf.RegionOpen
import Derived.WalkKit
import Derived.OwnWalkIn
import Derived.TacticsInMore
import Derived.LoopNIn
import Derived.LoopIn
import Derived.Test.YtbdoeikdoohagaaG8S
namespace Go.Proofs.Ytbdoeikdoohagaa.G
open Go.Shelf Go.RowKit Go.Proofs.YtbdoeikdoohagaaW.PrintWords Go.Proofs.YtbdoeikdoohagaaW.PrintLast Go.Proofs.YtbdoeikdoohagaaW.PrintMore
set_option linter.unusedVariables false
set_option linter.unusedSimpArgs false

section
theorem info_int : (Try.prog.info? 3).map (fun i => (i.zero, i.size, i.bytes)) = some (some (.int .i64 0), 1, 8) := by kernel_rfl
theorem cent_is (c : List (List Int)) : P.means_centroids.f c = some (centErr c) := by
  unfold P.means_centroids.f centErr
  by_cases h : c.length = 0
  · rw [if_pos (by omega), if_pos h]
  · rw [if_neg (by omega), if_neg h]
    by_cases h2 : 6 < c.length
    · rw [if_pos (by omega), if_pos h2]
    · rw [if_neg (by omega), if_neg h2]
def means_Parts.f (c l : List (List Int)) : Option (List Int × Int) := some (partsR c l)

set_option maxHeartbeats 2000000 in
set_option maxRecDepth 100000 in
theorem means_Parts.calls (A : Option Addr) (ca : Nat) (c : List (List Int)) (B : Option Addr) (cb : Nat) (l : List (List Int)) (r1 : List Int) (r2 : Int) (w : World) (hr : Kd.C (Kd.slice 21 (Kd.int .i32)) w A c.length c) (hc : c.length ≤ ca) (hr' : Kd.C (Kd.slice 21 (Kd.int .i32)) w B l.length l) (hc' : l.length ≤ cb) (h : means_Parts.f c l = some (r1, r2)) :
    Calls Try.prog 44 #[.slice A c.length ca, .slice B l.length cb] w fun e w' => ∃ v0_ : Value, e = .returned (.tuple #[v0_, .int .i64 r2]) ∧ Kd.R (Kd.int .i64) 3 w' w.heap.size (fun _ => True) v0_ r1 ∧ Below w.heap.size w w' := by
  replace h := Option.some.inj h
  unfold partsR at h
  have HR := Aside0.mk hr
  have HR' := Aside0.mk hr'
  have HK := Aside0.mk (show kRR.K w c [.slice A c.length ca] from ⟨A, ca, rfl, hc, hr⟩)
  have HK' := Aside0.mk (show kRR.K w l [.slice B l.length cb] from ⟨B, cb, rfl, hc', hr'⟩)
  have HCc := Aside0.mk hc
  have HCl := Aside0.mk hc'
  have hm := Kd.C_max hr
  have hm' := Kd.C_max hr'
  obtain ⟨ce, hce⟩ : ∃ ce, ce = centErr c := ⟨_, rfl⟩
  obtain ⟨me, hme⟩ : ∃ me, me = manyErr l := ⟨_, rfl⟩
  obtain ⟨ae, hae⟩ : ∃ ae, ae = allErr (c ++ l) := ⟨_, rfl⟩
  rw [← hce, ← hme, ← hae] at h
  have HCE := Aside0.mk hce
  have HME := Aside0.mk hme
  have HAE := Aside0.mk hae
  have H := Aside0.mk h
  clear hr hr' h hce hme hae hc hc'
  go_enter Try.func44, Try.ntmps44
  go_wp2_with fail
  refine (P.means_centroids.calls A ca c ce _ HR.out HCc.out (by rw [HCE.out]; exact cent_is c)).mono ?_
  rintro e w1 ⟨rfl, ⟨⟨n1, rfl⟩⟩⟩
  have h := H.out
  by_cases hz : ce = 0
  case neg =>
    rw [if_neg hz] at h
    obtain ⟨rfl, rfl⟩ := Prod.mk.inj h
    have e3 : (ce != 0) = true := by rw [bne_iff_ne]; exact hz
    have e4 : ce = 2 := by
      have := HCE.out
      unfold centErr at this
      by_cases h0 : c.length = 0
      · rw [if_pos h0] at this; exact this
      · rw [if_neg h0] at this
        by_cases h1 : 6 < c.length
        · rw [if_pos h1] at this; exact this
        · rw [if_neg h1] at this; exact absurd this hz
    subst e4
    clear h H hz
    go_wp2_with fail
    go_returns
    exact ⟨_, rfl, Kd.R_nil _ _ _ _ _, pw_below_drewN (Below.refl _ _) _⟩
  rw [if_pos hz] at h
  subst hz
  obtain ⟨hc1, hc2⟩ := cent_ok HCE.out.symm
  have H := Aside0.mk h
  clear h
  go_wp2_with fail
  refine (P.means_many.calls B cb l me _ (Kd.C_drewN HR'.out n1) HCl.out (by rw [HME.out]; exact many_is l)).mono ?_
  rintro e w2 ⟨rfl, ⟨⟨n2, rfl⟩⟩⟩
  have h := H.out
  by_cases hz : me = 0
  case neg =>
    rw [if_neg hz] at h
    obtain ⟨rfl, rfl⟩ := Prod.mk.inj h
    have e3 : (me != 0) = true := by rw [bne_iff_ne]; exact hz
    clear h H hz
    go_wp2_with fail
    go_returns
    exact ⟨_, rfl, Kd.R_nil _ _ _ _ _, pw_below_drewN (Below.refl _ _) _⟩
  rw [if_pos hz] at h
  subst hz
  obtain ⟨hl1, hl2⟩ := many_ok HME.out.symm
  have H := Aside0.mk h
  clear h
  go_wp2_with ((with_reducible refine gate_dst (N := 26) rfl ?_); refine Kd.R_lit (Kd.fixed kRR w) (w0 := w) w.heap.size 22 ?hg (N := 26) ?hd (xs := [c, l]) (inner := [.slice A c.length ca, .slice B l.length cb]) (ok := fun _ => True) (okp := fun _ => True) ?hr ?hp (fun _ hk => hk) trivial (pw_below_drewN (Below.refl _ _) _) (Nat.le_refl _) (by simp) ?_; (case hd => rfl); (case hg => rfl); (case hr => first | (go_simp; done) | (go_simp; rfl)); (case hp => exact Reps.one HK.out (Reps.one HK'.out (Reps.none _ _))); intro v1 w3 ho hb hg_ hnew_; clear hg_ hnew_; obtain ⟨A2, c2, e2', hl2', hC2⟩ := Kd.R_reads ho; subst e2'; have HC2 := Aside0.mk (ReadsRow.imp_ hC2 (Below.refl _ _) (fun _ _ hp => kRR.K_below hb hp) : Kd.C kRR w3 A2 [c, l].length [c, l]); have HL2 := Aside0.mk hl2'; have HB3 := Aside0.mk hb; clear ho hb hl2' hC2)
  refine (means_all.calls A2 c2 [c, l] ae w3 HC2.out HL2.out (by unfold means_all.f; rw [if_pos (by simp; omega), HAE.out]; simp)).mono ?_
  rintro e w4 ⟨rfl, hb4⟩
  have HB4 := Aside0.mk (below_step HB3.out hb4)
  clear hb4
  have h := H.out
  by_cases hz : ae = 0
  case neg =>
    rw [if_neg hz] at h
    obtain ⟨rfl, rfl⟩ := Prod.mk.inj h
    have e3 : (ae != 0) = true := by rw [bne_iff_ne]; exact hz
    clear h H hz
    go_wp2_with fail
    go_returns
    exact ⟨_, rfl, Kd.R_nil _ _ _ _ _, HB4.out⟩
  rw [if_pos hz] at h
  subst hz
  obtain ⟨rfl, rfl⟩ := Prod.mk.inj h
  clear h H
  go_wp2_with fail
  go_loopg [9, 33] l.length (fun gg v9 s33 wr => ∃ kk : Nat, kk ≤ l.length ∧ l.length - kk ≤ gg ∧ s33 = .int .i64 kk ∧ Aside0 (Kd.R (Kd.int .i64) 3 wr w.heap.size (fun _ => True) v9 (partsV c (l.take kk))) ∧ Aside0 (Below w.heap.size w wr))
  case atStart => exact ⟨0, Nat.zero_le _, by omega, rfl, ⟨by exact Kd.R_nil _ _ _ _ _⟩, HB4⟩
  case round =>
    obtain ⟨kk, hkk, hg, rfl, HO, HB⟩ := hrel
    by_cases hlt : kk < l.length
    · have hltz : (kk : Int) < (l.length : Int) := by omega
      obtain ⟨bd, A', c', hB, hcell, hlc', hC⟩ := C_row HR'.out kk hlt
      subst hB
      replace hcell := (HB.out.cell (World.block_lt_of_cell? w _ hcell)).trans hcell
      have HPS := Aside0.mk (parts_snoc c l kk hlt)
      have HN := Aside0.mk (vec_Nearest.calls A ca c A' c' (l.getD kk []) (own1 c (l.getD kk [])) 0 wr (Kd.C_below HR.out HB.out) HCc.out (Kd.C_below hC HB.out) hlc' (near_of hc1 hc2 (err_front HAE.out.symm kk hlt)))
      have hlen : (partsV c (l.take kk)).length = kk := by rw [parts_len, List.length_take]; omega
      have HLN := Aside0.mk hlen
      clear hlc' hC hlen
      generalize l.getD kk [] = x at *
      generalize own1 c x = q at *
      go_wp2_with fail
      refine HN.out.mono ?_
      rintro e w5 ⟨rfl, hb5⟩
      have HO5 := Aside0.mk (Kd.R_below HO.out hb5)
      have HB5 := Aside0.mk (below_step HB.out hb5)
      clear hb5
      go_wp2_with ((with_reducible refine gate_builtin (b := .append) (xs := #[.tmp 46, .tmp 48]) rfl ?_); at_builtin; refine Kd.R_append (Kd.int .i64) (w0 := w) w.heap.size rfl (.tmp 46) (.tmp 48) 51 3 (.int .i64 0) 8 rfl Try.underlying51 info_int rfl (by decide) (by omega) u9 (partsV c (l.take kk)) q [.int .i64 q] (fun _ => True) (fun _ => False) rfl rfl rfl (fun _ hk => hk.elim) (fun _ _ => trivial) HO5.out HB5.out (below_size HB5.out) (by rw [HLN.out]; omega) ?_; intro v6 w6 ho hb hg2 hat; rw [← HPS.out] at ho; have HO2 := Aside0.mk ho; have HB2 := Aside0.mk hb; clear ho hb hg2 hat)
      go_roundg (l.length - (kk + 1))
      case measure => omega
      case rel => exact ⟨kk + 1, hlt, by omega, by go_num, HO2, HB2⟩
    · obtain rfl : kk = l.length := by omega
      have hO := HO.out
      rw [List.take_length] at hO
      have HO2 := Aside0.mk hO
      clear hO
      go_wp2_with fail
      go_returns
      exact ⟨_, rfl, HO2.out, HB.out⟩

theorem part_calls (B : Option Addr) (m cb : Nat) (PA : Option Addr) (pm pc : Nat) (n : Int) (w : World) :
    Calls Try.prog 67 #[.slice B m cb, .slice PA pm pc, .int .i64 n] w fun e w' => e = .returned (.func (.func 80) #[] #[.pointer (some ⟨w.heap.size, 0, none⟩), .pointer (some ⟨w.heap.size + 1, 0, none⟩), .pointer (some ⟨w.heap.size + 1 + 1, 0, none⟩)]) ∧ w' = ((w.alloc (.cells #[.slice B m cb] 22)).alloc (.cells #[.slice PA pm pc] 51)).alloc (.cells #[.int .i64 n] 3) := by
  go_enter Try.func67, Try.ntmps67
  go_wp2_with fail
  go_returns
  exact ⟨rfl, rfl⟩
end

section
def assignR (c : List (List Int)) (v : List Int) : Int × Int := if centErr c = 0 then (if allErr (c ++ [v]) = 0 then (own1 c v, 0) else (0, allErr (c ++ [v]))) else (0, 2)
def means_Assign.f (c : List (List Int)) (v : List Int) : Option (Int × Int) := some (assignR c v)

set_option maxHeartbeats 2000000 in
set_option maxRecDepth 100000 in
theorem means_Assign.calls (A : Option Addr) (ca : Nat) (c : List (List Int)) (B : Option Addr) (cb : Nat) (v : List Int) (r1 r2 : Int) (w : World) (hr : Kd.C (Kd.slice 21 (Kd.int .i32)) w A c.length c) (hc : c.length ≤ ca) (hr' : Kd.C (Kd.int .i32) w B v.length v) (hc' : v.length ≤ cb) (h : means_Assign.f c v = some (r1, r2)) :
    Calls Try.prog 50 #[.slice A c.length ca, .slice B v.length cb] w fun e w' => e = .returned (.tuple #[.int .i64 r1, .int .i64 r2]) ∧ Below w.heap.size w w' := by
  replace h := Option.some.inj h
  unfold assignR at h
  have HR := Aside0.mk hr
  have HR' := Aside0.mk hr'
  have HK := Aside0.mk (show kRR.K w c [.slice A c.length ca] from ⟨A, ca, rfl, hc, hr⟩)
  have HK' := Aside0.mk (show kR.K w v [.slice B v.length cb] from ⟨B, cb, rfl, hc', hr'⟩)
  have HCc := Aside0.mk hc
  have HCl := Aside0.mk hc'
  have hm := Kd.C_max hr
  have hm' := Kd.C_max hr'
  obtain ⟨ce, hce⟩ : ∃ ce, ce = centErr c := ⟨_, rfl⟩
  obtain ⟨ae, hae⟩ : ∃ ae, ae = allErr (c ++ [v]) := ⟨_, rfl⟩
  rw [← hce, ← hae] at h
  have HCE := Aside0.mk hce
  have HAE := Aside0.mk hae
  have H := Aside0.mk h
  clear hr hr' h hce hae hc hc'
  go_enter Try.func50, Try.ntmps50
  go_wp2_with fail
  refine (P.means_centroids.calls A ca c ce _ HR.out HCc.out (by rw [HCE.out]; exact cent_is c)).mono ?_
  rintro e w1 ⟨rfl, ⟨⟨n1, rfl⟩⟩⟩
  have h := H.out
  by_cases hz : ce = 0
  case neg =>
    rw [if_neg hz] at h
    obtain ⟨rfl, rfl⟩ := Prod.mk.inj h
    have e3 : (ce != 0) = true := by rw [bne_iff_ne]; exact hz
    have e4 : ce = 2 := by
      have := HCE.out
      unfold centErr at this
      by_cases h0 : c.length = 0
      · rw [if_pos h0] at this; exact this
      · rw [if_neg h0] at this
        by_cases h1 : 6 < c.length
        · rw [if_pos h1] at this; exact this
        · rw [if_neg h1] at this; exact absurd this hz
    subst e4
    clear h H hz
    go_wp2_with fail
    go_returns
    exact ⟨rfl, pw_below_drewN (Below.refl _ _) _⟩
  rw [if_pos hz] at h
  subst hz
  obtain ⟨hc1, hc2⟩ := cent_ok HCE.out.symm
  have H := Aside0.mk h
  clear h
  go_wp2_with (first | ((with_reducible refine gate_dst (N := 15) rfl ?_); refine Kd.R_lit (Kd.fixed kR w) (w0 := w) w.heap.size 25 ?hg (N := 15) ?hd (xs := [v]) (inner := [.slice B v.length cb]) (ok := fun _ => True) (okp := fun _ => True) ?hr ?hp (fun _ hk => hk) trivial (pw_below_drewN (Below.refl _ _) _) (Nat.le_refl _) (by simp) ?_; (case hd => rfl); (case hg => rfl); (case hr => first | (go_simp; done) | (go_simp; rfl)); (case hp => exact Reps.one HK'.out (Reps.none _ _)); intro v1 w3 ho hb hg_ hnew_; clear hg_ hnew_; obtain ⟨A2, c2, e2', hl2', hC2⟩ := Kd.R_reads ho; subst e2'; have HC2 := Aside0.mk (ReadsRow.imp_ hC2 (Below.refl _ _) (fun _ _ hp => kR.K_below hb hp) : Kd.C kR w3 A2 [v].length [v]); have HL2 := Aside0.mk hl2'; have HB3 := Aside0.mk hb; have HK3 := Aside0.mk (kRR.K_below hb HK.out); have HK4 := Aside0.mk (show kRR.K w3 [v] [.slice A2 [v].length c2] from ⟨A2, c2, rfl, HL2.out, HC2.out⟩); clear ho hb hl2' hC2) | ((with_reducible refine gate_dst (N := 16) rfl ?_); refine Kd.R_lit (Kd.fixed kRR w3) (w0 := w) w.heap.size 22 ?hg (N := 16) ?hd (xs := [c, [v]]) (inner := [.slice A c.length ca, .slice A2 [v].length c2]) (ok := fun _ => True) (okp := fun _ => True) ?hr ?hp (fun _ hk => hk) trivial HB3.out (below_size HB3.out) (by simp) ?_; (case hd => rfl); (case hg => rfl); (case hr => first | (go_simp; done) | (go_simp; rfl)); (case hp => exact Reps.one HK3.out (Reps.one HK4.out (Reps.none _ _))); intro v5 w5 ho hb hg_ hnew_; obtain ⟨A6, c6, e6', hl6', hC6⟩ := Kd.R_reads ho; subst e6'; have HC6 := Aside0.mk (ReadsRow.imp_ hC6 (Below.refl _ _) (fun _ _ hp => kRR.K_below ((Below.refl w3.heap.size w3).grown hg_ (Nat.le_refl _) (fun j ej => by cases ej)) hp) : Kd.C kRR w5 A6 [c, [v]].length [c, [v]]); have HL6 := Aside0.mk hl6'; have HB5 := Aside0.mk hb; clear ho hb hl6' hC6 hg_ hnew_))
  refine (means_all.calls A6 c6 [c, [v]] ae w5 HC6.out HL6.out (by unfold means_all.f; rw [if_pos (by simp; omega), HAE.out]; simp)).mono ?_
  rintro e w7 ⟨rfl, hb7⟩
  have HB7 := Aside0.mk (below_step HB5.out hb7)
  clear hb7
  have h := H.out
  by_cases hz : ae = 0
  case neg =>
    rw [if_pos trivial, if_neg hz] at h
    obtain ⟨rfl, rfl⟩ := Prod.mk.inj h
    have e3 : (ae != 0) = true := by rw [bne_iff_ne]; exact hz
    clear h H hz
    go_wp2_with fail
    go_returns
    exact ⟨rfl, HB7.out⟩
  rw [if_pos trivial, if_pos hz] at h
  subst hz
  obtain ⟨rfl, rfl⟩ := Prod.mk.inj h
  clear h H
  have hne : allErr (v :: c) = 0 := by simpa using err_front (c := c) (l := [v]) HAE.out.symm 0 (by simp)
  have HN := Aside0.mk (vec_Nearest.calls A ca c B cb v (own1 c v) 0 w7 (Kd.C_below HR.out HB7.out) HCc.out (Kd.C_below HR'.out HB7.out) HCl.out (near_of hc1 hc2 hne))
  clear hne
  go_wp2_with fail
  refine HN.out.mono ?_
  rintro e w8 ⟨rfl, hb8⟩
  have HB8 := Aside0.mk (below_step HB7.out hb8)
  clear hb8
  go_wp2_with fail
  go_returns
  exact ⟨rfl, HB8.out⟩
end

end Go.Proofs.Ytbdoeikdoohagaa.G
